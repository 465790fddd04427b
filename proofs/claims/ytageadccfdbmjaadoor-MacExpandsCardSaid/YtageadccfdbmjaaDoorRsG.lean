/- The document's root: the first bits behind the point. -/
import Derived.Test.YtageadccfdbmjaaDoorRsF
-- TT 2 3 4 5 22 26 28 59 71
-- SIMP beq_self_eq_true
set_option linter.unusedVariables false
set_option linter.unusedSimpArgs false
namespace Go.Proofs.YtageadccfdbmjaaDoor
open Sx
set_option maxRecDepth 100000
set_option maxHeartbeats 1000000
theorem mostN_len (p : Int) : ∀ i, (mostN p i).length = 2 * i + 1
  | 0 => rfl
  | i + 1 => by rw [mostN, List.length_cons, List.length_cons, mostN_len p i]; omega
theorem powN_len (m : Int) (j : Nat) (hj : j ≤ 2) : (powN m j).length ≤ 500 ∧ (j ≤ 1 → (powN m j).length ≤ 400) ∧ (powN m j).length ≠ 0 := by
  obtain ⟨a1, a2⟩ := timesN_len [1] m
  obtain ⟨b1, b2⟩ := timesN_len (powN m 0) m
  obtain ⟨c1, c2⟩ := timesN_len (powN m 1) m
  have a3 : (powN m 0).length ≤ 33 := a1
  have a4 : (powN m 0).length ≠ 0 := a2 (by simp)
  have b3 : (powN m 1).length ≤ 3 * (powN m 0).length + 30 := b1
  have b4 : (powN m 1).length ≠ 0 := b2 a4
  have c3 : (powN m 2).length ≤ 3 * (powN m 1).length + 30 := c1
  have c4 : (powN m 2).length ≠ 0 := c2 b4
  match j, hj with
  | 0, _ => exact ⟨by omega, by omega, a4⟩
  | 1, _ => exact ⟨by omega, by omega, b4⟩
  | 2, _ => exact ⟨by omega, by omega, c4⟩
theorem rootK_bit (p : Int) (pw : Nat) : ∀ k, k ≤ 36 → (rootK p pw k).2 = 2 ^ (36 - k)
  | 0, _ => rfl
  | k + 1, hk => by
    have ih := rootK_bit p pw k (by omega)
    rw [rootK]
    generalize rootK p pw k = s at *
    obtain ⟨n, bit⟩ := s
    show W64 (bit.tdiv 2) = _
    rw [show bit = 2 ^ (36 - k) from ih]
    clear ih
    have : ∀ k : Nat, k < 36 → W64 ((2 ^ (36 - k) : Int).tdiv 2) = 2 ^ (36 - (k + 1)) := by decide
    exact this k (by omega)
theorem root_s (p : Int) (pw k : Nat) (n bit : Int) (h : rootK p pw k = (n, bit)) : rootK p pw (k + 1) = (if aboveN (powN (W64 (n + W64 (bit.tdiv 2))) (pw - 1)) (mostN p pw) then n else W64 (n + W64 (bit.tdiv 2)), W64 (bit.tdiv 2)) := by
  rw [rootK, h]
theorem root_fn (p : Int) (pw : Nat) (h1 : 1 ≤ pw) (h3 : pw ≤ 3) : FnR Tryd.prog G 39 [.int .u64 p, .int .i64 (pw : Int)] [] (.int .u32 (rootN p pw)) [] := by
  rw [rootN]
  have ht1 : ∀ x : Int, List.take 1 (List.drop 0 [x]) = [x] := fun _ => rfl
  refine FnR.of_walk (m := 48) (n0 := 0) tt_ok Tryd.func39 rfl rfl (by simp) (by simp [nmH]) ?_
  rw [show Tryd.f39.results.toList = [.tmp 4] from rfl]
  refine W.seqK fun K hK => W.regionK tt_ok ?_
  simp only [exOps_nil, exOps_cons, exOp_eq, nx_eq, cur_eq, stepQ, ev, ofV, parT, putT, erA, inB, opt, ret, onQ, ap, true_and, Nat.reduceEqDiff, Nat.reduceLT, Nat.zero_add, if_false, reduceCtorEq]
  refine hK _ ?_
  clear hK K
  refine W.seqK fun K hK => W.regionK tt_ok ?_
  simp only [exOps_nil, exOps_cons, exOp_eq, nx_eq, cur_eq, evP, stepQ, ev, lk, putT, erA, inB, opt, bnd, req, ret, onQ, ap, up, er, AV.isTup, AV.isAgg, intsOf, Kd.agg, comps, szL, csize, takeI, takeC, dropC, stC, stS, Row.len, Row.sz, bldA, bslQ, zeroCs, cellsRow, and_true, true_and, and_self, and_false, Nat.reduceEqDiff, Nat.reduceLT, Nat.reduceLeDiff, Nat.reduceAdd, Nat.reduceSub, Nat.reduceMul, Nat.sub_self, Nat.le_refl, Nat.add_zero, Nat.zero_add, if_true, if_false, Bool.false_eq_true, reduceCtorEq, Option.bind_some, Option.map_some, List.append_nil, List.nil_append, List.cons_append, tt_28, tt_71, lit1, List.set_cons_zero, List.length_cons, List.length_nil]
  refine hK _ ?_
  clear hK K
  refine W.seqK fun Kx hKx => ?_
  refine W.seqK fun K hK => W.regionK tt_ok ?_
  simp only [exOps_nil, exOps_cons, exOp_eq, nx_eq, cur_eq, stepQ, ev, ofV, putT, erA, inB, opt, ret, onQ, ap, true_and, Nat.reduceEqDiff, Nat.reduceLT, Nat.reduceAdd, if_false, reduceCtorEq]
  refine hK _ ?_
  clear hK K
  refine W.blockK ?_
  refine W.loopS (fun i : Nat => i ≤ pw) (fun i => ⟨[(1, .int .i64 (pw : Int)), (5, .sl 32 1 0 (2 * i + 1)), (6, .int .i64 (i : Int))], [(32, .vec 28 (.ints .u64 (mostN p i)))], 600, 48⟩) (fun i => pw - i) 0 (by simp) (by simp [mostN, wk, leL, lk, nmT, nmE, nmH, AV.nmIn, Ent.nmIn, Row.nmIn]) ?_
  intro i hp K3 hK3
  by_cases hlt : i < pw
  · have c1 : (i : Int) < (pw : Int) := by omega
    have hml := mostN_len p i
    have hs : mostN p (i + 1) = 0 :: 0 :: mostN p i := rfl
    generalize hT1 : mostN p (i + 1) = M1 at *
    generalize hT0 : mostN p i = M at *
    have htM : List.take (2 * i + 1) (List.drop 0 M) = M := by rw [List.drop_zero]; exact List.take_of_length_le (by omega)
    have h10 : List.take 2 [(0 : Int), 0] ++ M = 0 :: 0 :: M := rfl
    refine W.seqK fun K0 hK0 => ?_
    refine W.seqK fun K hK => W.regionK tt_ok ?_
    simp only [decide_true, exOps_nil, exOps_cons, exOp_eq, nx_eq, cur_eq, stepQ, ev, lk, putT, erA, inB, opt, bnd, req, ret, onQ, ap, binG, binF, intF, true_and, and_self, Nat.reduceEqDiff, Nat.reduceLT, Nat.reduceAdd, if_true, if_false, c1]
    refine hK _ ?_
    clear hK K
    refine W.cond (b := true) (by simp only [ev, lk, Nat.reduceEqDiff, if_true, if_false]) (fun _ => W.skip ?_) (fun h => absurd h (by simp))
    rw [thn_normal]
    refine hK0 _ ?_
    clear hK0 K0
    refine W.seqK fun K hK => W.blockK ?_
    refine W.region tt_ok ?_
    simp only [exOps_nil, exOps_cons, exOp_eq, exCall_eq, nx_eq, cur_eq, evL, evP, stepQ, ev, ofV, lk, putT, erA, inB, opt, bnd, req, ret, onQ, ap, up, er, AV.isTup, AV.isAgg, intsOf, Kd.agg, comps, szL, csize, takeI, takeC, dropC, stC, stS, bltQ, bltV, appR, appQ, appV, srcQ, Row.len, Row.sz, Row.take, Row.drop, Row.app, Ent.row, bldA, bslQ, zeroCs, cellsRow, thn_normal, inb_normal, and_true, true_and, and_self, and_false, or_false, Nat.reduceEqDiff, Nat.reduceLT, Nat.reduceLeDiff, Nat.reduceAdd, Nat.reduceSub, Nat.reduceMul, Nat.sub_self, Nat.le_refl, Nat.add_zero, Nat.zero_add, if_true, if_false, Bool.false_eq_true, reduceCtorEq, Option.bind_some, Option.map_some, List.append_nil, List.nil_append, List.cons_append, tt_28, tt_71, lit2, List.set_cons_zero, List.set_cons_succ, List.length_cons, List.length_nil, htM, hml, h10]
    refine ⟨by omega, ?_⟩
    refine hK _ ?_
    refine W.region tt_ok ?_
    simp only [exOps_nil, exOps_cons, exOp_eq, nx_eq, cur_eq, stepQ, ev, ofV, lk, putT, erA, inB, opt, bnd, req, ret, onQ, ap, binG, binF, intF, thn_normal, true_and, and_self, Nat.reduceEqDiff, Nat.reduceLT, Nat.reduceAdd, if_true, if_false, wrap_up i (by omega)]
    refine hK3 _ (i + 1) 680 32 (by omega) (by omega) ⟨⟨by simp [Nm, lk], by simp [Nm, lk]⟩, by simp, by simp⟩ ?_
    rw [hT1, hs, show 2 + (2 * i + 1) = 2 * (i + 1) + 1 by omega]
    simp [St.swap, tmMap, enMap, swp, AV.map, Ent.map, Row.map, wk, leL, lk, nmT, nmE, nmH, AV.nmIn, Ent.nmIn, Row.nmIn]
  have hi' : i = pw := by omega
  have c1 : ¬ (i : Int) < (pw : Int) := by omega
  refine W.seqK fun K0 hK0 => ?_
  refine W.seqK fun K hK => W.regionK tt_ok ?_
  simp only [decide_false, exOps_nil, exOps_cons, exOp_eq, nx_eq, cur_eq, stepQ, ev, lk, putT, erA, inB, opt, bnd, req, ret, onQ, ap, binG, binF, intF, true_and, and_self, Nat.reduceEqDiff, Nat.reduceLT, Nat.reduceAdd, if_true, if_false, c1]
  refine hK _ ?_
  clear hK K
  refine W.cond (b := false) (by simp only [ev, lk, Nat.reduceEqDiff, if_true, if_false]) (fun h => absurd h (by simp)) (fun _ => W.exit ?_)
  simp only [thn_normal, thn_exit, inb_exit, if_true]
  clear hK0 K0
  refine hKx _ ?_
  clear hK3 hlt c1 hp hKx
  have hml := mostN_len p pw
  rw [hi']
  refine W.seqK fun K hK => W.regionK tt_ok ?_
  simp only [exOps_nil, exOps_cons, exOp_eq, nx_eq, cur_eq, stepQ, ev, ofV, putT, erA, inB, opt, ret, onQ, ap, true_and, Nat.reduceEqDiff, Nat.reduceLT, Nat.reduceAdd, if_false]
  refine hK _ ?_
  clear hK K
  refine W.seqK fun K hK => W.regionK tt_ok ?_
  simp only [exOps_nil, exOps_cons, exOp_eq, nx_eq, cur_eq, stepQ, ev, ofV, putT, erA, inB, opt, ret, onQ, ap, true_and, Nat.reduceEqDiff, Nat.reduceLT, Nat.reduceAdd, if_false]
  refine hK _ ?_
  clear hK K
  refine W.seqK fun Kx hKx => ?_
  refine W.blockK ?_
  refine W.loopK (fun k : Nat => k ≤ 36) (fun k => ⟨[(1, .int .i64 (pw : Int)), (5, .sl 32 1 0 (2 * pw + 1)), (7, .int .u64 (rootK p pw k).1), (8, .int .u64 (rootK p pw k).2)], [(32, .vec 28 (.ints .u64 (mostN p pw)))], 1000, 48⟩) (fun k => 36 - k) 0 (by simp) (by simp [rootK, wk, leL, lk, nmT, nmE, nmH, AV.nmIn, Ent.nmIn, Row.nmIn]) ?_
  intro k hk K3 hK3
  have hbit := rootK_bit p pw k hk
  by_cases hlt : k < 36
  · have hgt : (1 : Int) < (rootK p pw k).2 := by
      rw [hbit]
      have : ∀ k : Nat, k < 36 → (1 : Int) < 2 ^ (36 - k) := by decide
      exact this k hlt
    have hs := root_s p pw k (rootK p pw k).1 (rootK p pw k).2 rfl
    generalize hT1 : rootK p pw (k + 1) = s1 at *
    generalize hT0 : rootK p pw k = s at *
    obtain ⟨n, bit⟩ := s
    simp only at hgt hs hbit
    have hwb : IntKind.u64.wrap (bit.tdiv 2) = W64 (bit.tdiv 2) := rfl
    generalize W64 (bit.tdiv 2) = bt at *
    have hwm : IntKind.u64.wrap (n + bt) = W64 (n + bt) := rfl
    generalize W64 (n + bt) = m at *
    have c1 := times_own 1176 [1] m (by simp) (by simp)
    have hp0 : timesN [1] m = powN m 0 := rfl
    rw [hp0] at c1
    refine W.seqK fun K0 hK0 => ?_
    refine W.seqK fun K hK => W.regionK tt_ok ?_
    simp only [decide_true, exOps_nil, exOps_cons, exOp_eq, nx_eq, cur_eq, stepQ, ev, ofV, lk, putT, erA, inB, opt, bnd, req, ret, onQ, ap, binG, binF, intF, true_and, and_self, Nat.reduceEqDiff, Nat.reduceLT, Nat.reduceAdd, if_true, if_false, hgt]
    refine hK _ ?_
    clear hK K
    refine W.cond (b := true) (by simp only [ev, lk, Nat.reduceEqDiff, if_true, if_false]) (fun _ => ?_) (fun h => absurd h (by simp))
    refine W.skip ?_
    simp only [thn_normal]
    refine hK0 _ ?_
    refine W.blockK ?_
    refine W.seqK fun K hK => W.regionK tt_ok ?_
    simp only [exOps_nil, exOps_cons, exOp_eq, nx_eq, cur_eq, stepQ, ev, ofV, lk, putT, erA, inB, opt, bnd, req, ret, onQ, ap, binG, binF, intF, and_true, true_and, Nat.reduceEqDiff, Nat.reduceLT, Nat.reduceAdd, if_true, if_false, ne_eq, hwb]
    repeat (refine ⟨by omega, ?_⟩)
    refine hK _ ?_
    clear hK K
    refine W.seqK fun K hK => W.regionK tt_ok ?_
    simp only [exOps_nil, exOps_cons, exOp_eq, nx_eq, cur_eq, stepQ, ev, lk, putT, erA, inB, opt, bnd, req, ret, onQ, ap, binG, binF, intF, true_and, and_self, Nat.reduceEqDiff, Nat.reduceLT, Nat.reduceAdd, if_true, if_false, hwm]
    refine hK _ ?_
    clear hK K
    refine W.seqK fun K hK => W.regionK tt_ok ?_
    simp only [exOps_cons, exOp_eq, exCall_eq, nx_eq, cur_eq, evL, evP, stepQ, ev, ofV, lk, putT, erA, inB, opt, bnd, req, ret, onQ, ap, up, er, AV.isTup, AV.isAgg, intsOf, Kd.agg, comps, szL, csize, takeI, takeC, dropC, stC, stS, Row.len, Row.sz, bldA, bslQ, zeroCs, cellsRow, and_true, true_and, and_self, and_false, Nat.reduceEqDiff, Nat.reduceLT, Nat.reduceLeDiff, Nat.reduceAdd, Nat.reduceSub, Nat.reduceMul, Nat.sub_self, Nat.le_refl, Nat.add_zero, Nat.zero_add, if_true, if_false, Bool.false_eq_true, reduceCtorEq, Option.bind_some, Option.map_some, List.append_nil, List.nil_append, List.cons_append, tt_28, tt_71, lit1, List.set_cons_zero, List.length_cons, List.length_nil]
    refine CallK.with [] [(1176, .vec 28 (.ints .u64 (powN m 0)))] _ _ c1 call45 (by simp only [Bool.or_false, AV.nmIn, lk, opt, bnd, req, ret, onQ, AV.isTup, isTupL, Ent.row, and_true, true_and, and_self, Nat.reduceEqDiff, Nat.zero_add, if_true, if_false, forall_const, List.append_nil, vw.vwL, vw, viewR, AV.free, Ent.row, Bool.or_self]; all_goals (and_intros <;> first | exact AV.subL_refl _ | omega | (simp [AV.sub, entsFree, Ent.free, Row.free]; done) | rfl | (simp [AV.subL_refl]; done))) (by simp [leL]) (by intro n hn; first | (left; revert hn; simp [Nm, lk]; done) | (right; revert hn; simp only [Nm, lk]; split <;> simp <;> omega) | (by_cases h1 : Nm [] n; exact .inl h1; right; revert hn h1; simp only [Nm, lk]; split <;> (try split) <;> (try split) <;> (try split) <;> (try simp) <;> (try omega))) (by simp [entsIn]) ?_
    simp only [callDel, exOps_nil, exOps_cons, exOp_eq, nx_eq, cur_eq, stepQ, ev, lk, putT, erA, inB, opt, ret, onQ, ap, up, er, true_and, Nat.reduceEqDiff, Nat.reduceLT, Nat.reduceAdd, if_true, if_false, List.nil_append, List.map_cons, List.map_nil, List.reverse_cons, List.reverse_nil]
    refine hK _ ?_
    clear hK K
    refine W.seqK fun Ky hKy => ?_
    refine W.seqK fun K hK => W.regionK tt_ok ?_
    simp only [exOps_nil, exOps_cons, exOp_eq, nx_eq, cur_eq, stepQ, ev, ofV, putT, erA, inB, opt, ret, onQ, ap, true_and, Nat.reduceEqDiff, Nat.reduceLT, Nat.reduceAdd, if_false]
    refine hK _ ?_
    clear hK K
    refine W.blockK ?_
    refine W.loopS (fun j : Nat => j ≤ pw - 1) (fun j => ⟨[(1, .int .i64 (pw : Int)), (5, .sl 32 1 0 (2 * pw + 1)), (7, .int .u64 n), (8, .int .u64 bt), (9, .int .u64 m), (10, .sl 1176 1 0 (powN m j).length), (11, .int .i64 ((j : Int) + 1))], [(1176, .vec 28 (.ints .u64 (powN m j))), (32, .vec 28 (.ints .u64 (mostN p pw)))], 1300, 48⟩) (fun j => pw - j) 0 (by simp) (by simp [wk, leL, lk, nmT, nmE, nmH, AV.nmIn, Ent.nmIn, Row.nmIn]) ?_
    intro j hj K4 hK4
    obtain ⟨q1, q2, q3⟩ := powN_len m j (by omega)
    by_cases hjt : j < pw - 1
    · have c2 : (j : Int) + 1 < (pw : Int) := by omega
      have hps : powN m (j + 1) = timesN (powN m j) m := rfl
      have ct := times_own 1380 (powN m j) m q3 (q2 (by omega))
      rw [← hps] at ct
      have hwj : IntKind.i64.wrap ((j : Int) + 1 + 1) = ((j + 1 : Nat) : Int) + 1 := by rw [IntKind.wrap_i64]; omega
      generalize hX1 : powN m (j + 1) = X1 at *
      generalize hX0 : powN m j = X at *
      have ct' : FnR Tryd.prog G 45 [.lstI .u64 (List.take X.length (List.drop 0 X)), .int .u64 m] [] (.sl 1380 1 0 X1.length) [(1380, .vec 28 (.ints .u64 X1))] := by
        rw [List.drop_zero, List.take_length]; exact ct
      refine W.seqK fun K0 hK0 => ?_
      refine W.seqK fun K hK => W.regionK tt_ok ?_
      simp only [decide_true, exOps_nil, exOps_cons, exOp_eq, nx_eq, cur_eq, stepQ, ev, lk, putT, erA, inB, opt, bnd, req, ret, onQ, ap, binG, binF, intF, true_and, and_self, Nat.reduceEqDiff, Nat.reduceLT, Nat.reduceAdd, if_true, if_false, c2]
      refine hK _ ?_
      clear hK K
      refine W.cond (b := true) (by simp only [ev, lk, Nat.reduceEqDiff, if_true, if_false]) (fun _ => W.skip ?_) (fun h => absurd h (by simp))
      rw [thn_normal]
      refine hK0 _ ?_
      clear hK0 K0
      refine W.seqK fun K hK => W.blockK ?_
      refine W.region tt_ok ?_
      simp only [exOps_cons, exOp_eq, exCall_eq, nx_eq, cur_eq, evL, stepQ, ev, lk, putT, erA, inB, opt, ret, onQ, ap, true_and, Nat.reduceEqDiff, Nat.reduceLT, Nat.reduceAdd, if_true, if_false, Option.bind_some, Option.map_some]
      refine CallK.with [] [(1380, .vec 28 (.ints .u64 X1))] _ _ ct' call45 (by simp only [Bool.or_false, AV.nmIn, lk, opt, bnd, req, ret, onQ, AV.isTup, isTupL, Ent.row, true_and, and_self, Nat.reduceEqDiff, Nat.le_refl, Nat.zero_add, if_true, if_false, forall_const, List.append_nil, vw.vwL, vw, viewR, AV.free, Ent.row, Bool.or_self]; all_goals (and_intros <;> first | exact AV.subL_refl _ | omega | (simp [AV.sub, entsFree, Ent.free, Row.free]; done) | rfl | (simp [AV.subL_refl]; done))) (by simp [leL]) (by intro n hn; first | (left; revert hn; simp [Nm, lk]; done) | (right; revert hn; simp only [Nm, lk]; split <;> simp <;> omega) | (by_cases h1 : Nm [] n; exact .inl h1; right; revert hn h1; simp only [Nm, lk]; split <;> (try split) <;> (try split) <;> (try split) <;> (try simp) <;> (try omega))) (by simp [entsIn]) ?_
      simp only [callDel, exOps_nil, exOps_cons, exOp_eq, nx_eq, cur_eq, stepQ, ev, lk, putT, erA, inB, opt, ret, onQ, ap, up, er, thn_normal, inb_normal, true_and, Nat.reduceEqDiff, Nat.reduceLT, Nat.reduceAdd, if_true, if_false, List.nil_append, List.map_cons, List.map_nil, List.reverse_cons, List.reverse_nil]
      refine hK _ ?_
      refine W.region tt_ok ?_
      simp only [exOps_nil, exOps_cons, exOp_eq, nx_eq, cur_eq, stepQ, ev, ofV, lk, putT, erA, inB, opt, bnd, req, ret, onQ, ap, binG, binF, intF, thn_normal, true_and, and_self, Nat.reduceEqDiff, Nat.reduceLT, Nat.reduceAdd, if_true, if_false, hwj]
      refine hK4 _ (j + 1) 1380 1176 (by omega) (by omega) ⟨⟨by simp [Nm, lk], by simp [Nm, lk]⟩, by simp, by simp⟩ ?_
      rw [hX1]
      simp [St.swap, tmMap, enMap, swp, AV.map, Ent.map, Row.map, wk, leL, lk, nmT, nmE, nmH, AV.nmIn, Ent.nmIn, Row.nmIn]
    have hj' : j = pw - 1 := by omega
    have c2 : ¬ (j : Int) + 1 < (pw : Int) := by omega
    rw [← hj'] at hs
    clear hK4 hjt
    generalize powN m j = X at *
    generalize hMM : mostN p pw = M at *
    have ca := above_fn X M (by omega) (by omega)
    have ca' : FnR Tryd.prog G 46 [.lstI .u64 (List.take X.length (List.drop 0 X)), .lstI .u64 (List.take (2 * pw + 1) (List.drop 0 M))] [] (.bool (aboveN X M)) [] := by
      rw [List.drop_zero, List.drop_zero, List.take_length, List.take_of_length_le (by omega)]; exact ca
    refine W.seqK fun K0 hK0 => ?_
    refine W.seqK fun K hK => W.regionK tt_ok ?_
    simp only [decide_false, exOps_nil, exOps_cons, exOp_eq, nx_eq, cur_eq, stepQ, ev, lk, putT, erA, inB, opt, bnd, req, ret, onQ, ap, binG, binF, intF, true_and, and_self, Nat.reduceEqDiff, Nat.reduceLT, Nat.reduceAdd, if_true, if_false, c2]
    refine hK _ ?_
    clear hK K
    refine W.cond (b := false) (by simp only [ev, lk, Nat.reduceEqDiff, if_true, if_false]) (fun h => absurd h (by simp)) (fun _ => W.exit ?_)
    simp only [thn_normal, thn_exit, inb_exit, Nat.reduceEqDiff, if_true, if_false]
    clear hK0 K0
    refine hKy _ ?_
    cases hab : aboveN X M with
    | true =>
      rw [hab] at ca' hs
      rw [if_pos rfl] at hs
      refine W.seqK fun K hK => W.regionK tt_ok ?_
      simp only [exOps_cons, exOp_eq, exCall_eq, nx_eq, cur_eq, evL, stepQ, ev, lk, putT, erA, inB, opt, ret, onQ, ap, true_and, Nat.reduceEqDiff, Nat.reduceLT, Nat.reduceAdd, if_true, if_false, Option.bind_some, Option.map_some]
      refine CallK.pure _ _ ca' call46 (by simp only [Bool.or_false, lk, opt, bnd, req, ret, onQ, AV.isTup, isTupL, Ent.row, and_true, true_and, and_self, Nat.reduceEqDiff, Nat.le_refl, Nat.zero_add, if_true, if_false, forall_const, List.append_nil, vw.vwL, vw, viewR, AV.free, Ent.row, Bool.or_self]; all_goals (and_intros <;> first | exact AV.subL_refl _ | omega | (simp [AV.sub]; done) | rfl | (simp [AV.subL_refl]; done) | (simp; exact AV.subL_refl _))) ?_
      simp only [Bool.not_true, exOps_nil, exOps_cons, exOp_eq, nx_eq, cur_eq, stepQ, ev, lk, putT, erA, inB, opt, bnd, req, ret, onQ, ap, unF, true_and, and_self, Nat.reduceEqDiff, Nat.reduceLT, Nat.reduceAdd, if_true, if_false]
      refine hK _ ?_
      clear hK K
      refine W.cond (b := false) (by simp only [ev, lk, Nat.reduceEqDiff, if_true, if_false]) (fun h => absurd h (by simp)) (fun _ => ?_)
      refine W.skip ?_
      simp only [thn_normal, inb_normal]
      refine hK3 _ (k + 1) (by omega) (by omega) ?_
      rw [hT1, hs]
      simp [wk, leL, lk, nmT, nmE, nmH, AV.nmIn, Ent.nmIn, Row.nmIn]
    | false =>
      rw [hab] at ca' hs
      rw [if_neg (by simp)] at hs
      refine W.seqK fun K hK => W.regionK tt_ok ?_
      simp only [exOps_cons, exOp_eq, exCall_eq, nx_eq, cur_eq, evL, stepQ, ev, lk, putT, erA, inB, opt, ret, onQ, ap, true_and, Nat.reduceEqDiff, Nat.reduceLT, Nat.reduceAdd, if_true, if_false, Option.bind_some, Option.map_some]
      refine CallK.pure _ _ ca' call46 (by simp only [Bool.or_false, lk, opt, bnd, req, ret, onQ, AV.isTup, isTupL, Ent.row, and_true, true_and, and_self, Nat.reduceEqDiff, Nat.le_refl, Nat.zero_add, if_true, if_false, forall_const, List.append_nil, vw.vwL, vw, viewR, AV.free, Ent.row, Bool.or_self]; all_goals (and_intros <;> first | exact AV.subL_refl _ | omega | (simp [AV.sub]; done) | rfl | (simp [AV.subL_refl]; done) | (simp; exact AV.subL_refl _))) ?_
      simp only [Bool.not_false, exOps_nil, exOps_cons, exOp_eq, nx_eq, cur_eq, stepQ, ev, lk, putT, erA, inB, opt, bnd, req, ret, onQ, ap, unF, true_and, and_self, Nat.reduceEqDiff, Nat.reduceLT, Nat.reduceAdd, if_true, if_false]
      refine hK _ ?_
      clear hK K
      refine W.cond (b := true) (by simp only [ev, lk, Nat.reduceEqDiff, if_true, if_false]) (fun _ => ?_) (fun h => absurd h (by simp))
      refine W.region tt_ok ?_
      simp only [exOps_nil, exOps_cons, exOp_eq, nx_eq, cur_eq, stepQ, ev, lk, putT, erA, inB, opt, ret, onQ, ap, thn_normal, inb_normal, true_and, Nat.reduceEqDiff, Nat.reduceLT, Nat.reduceAdd, if_true, if_false]
      refine hK3 _ (k + 1) (by omega) (by omega) ?_
      rw [hT1, hs]
      simp [wk, leL, lk, nmT, nmE, nmH, AV.nmIn, Ent.nmIn, Row.nmIn]
  have hk' : k = 36 := by omega
  subst hk'
  have hgt : ¬ (1 : Int) < (rootK p pw 36).2 := by rw [hbit]; decide
  generalize rootK p pw 36 = s at *
  obtain ⟨n, bit⟩ := s
  simp only at hgt ⊢
  refine W.seqK fun K0 hK0 => ?_
  refine W.seqK fun K hK => W.regionK tt_ok ?_
  simp only [decide_false, exOps_nil, exOps_cons, exOp_eq, nx_eq, cur_eq, stepQ, ev, ofV, lk, putT, erA, inB, opt, bnd, req, ret, onQ, ap, binG, binF, intF, true_and, and_self, Nat.reduceEqDiff, Nat.reduceLT, Nat.reduceAdd, if_true, if_false, hgt]
  refine hK _ ?_
  clear hK K
  refine W.cond (b := false) (by simp only [ev, lk, Nat.reduceEqDiff, if_true, if_false]) (fun h => absurd h (by simp)) (fun _ => ?_)
  refine W.exit ?_
  simp only [thn_normal, thn_exit, inb_exit, if_true]
  refine hKx _ ?_
  refine W.seqK fun K hK => W.regionK tt_ok ?_
  simp only [exOps_nil, exOps_cons, exOp_eq, nx_eq, cur_eq, stepQ, ev, ofV, lk, putT, erA, inB, opt, bnd, req, ret, onQ, ap, binG, binF, intF, cvQ, and_true, true_and, and_self, Nat.reduceEqDiff, Nat.reduceLT, Nat.reduceAdd, if_true, if_false, ne_eq, tt_26, tt_28]
  repeat (refine ⟨by omega, ?_⟩)
  refine hK _ ?_
  clear hK K
  refine W.ret ?_
  simp only [fin_ret, finB, resQ, resV, leL, AV.nmIn, entsIn, lk, opt, bnd, req, ret, onQ, AV.isTup, and_self, Nat.reduceEqDiff, if_true, if_false]
theorem call39 : Callable Tryd.prog 39 := ⟨_, Tryd.func39, by kernel_rfl, by kernel_rfl⟩
end Go.Proofs.YtageadccfdbmjaaDoor
