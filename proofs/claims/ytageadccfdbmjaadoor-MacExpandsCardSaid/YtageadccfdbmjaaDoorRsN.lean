/- The document's state behind a block more. -/
import Derived.Test.YtageadccfdbmjaaDoorRsM
-- TT 2 3 4 5 22 26 28 59 71
set_option linter.unusedVariables false
set_option linter.unusedSimpArgs false
namespace Go.Proofs.YtageadccfdbmjaaDoor
open Sx
set_option maxRecDepth 100000
set_option maxHeartbeats 1000000
def x3 (v : Int) (p q s : Nat) : Int := bits .xor .u32 (bits .xor .u32 (tnK v p) (tnK v q)) (tnK v s)
def qT (x w : List Int) (kc : List Int) (i : Nat) : Int :=
  IntKind.u32.wrap (IntKind.u32.wrap (IntKind.u32.wrap (IntKind.u32.wrap (x.getD 7 0 + x3 (x.getD 4 0) 6 11 25) + bits .xor .u32 (bits .and .u32 (x.getD 4 0) (x.getD 5 0)) (bits .and .u32 (bits .xor .u32 IntKind.u32.max (x.getD 4 0)) (x.getD 6 0))) + kc.getD i 0) + w.getD i 0)
def qU (x : List Int) : Int :=
  IntKind.u32.wrap (x3 (x.getD 0 0) 2 13 22 + bits .xor .u32 (bits .xor .u32 (bits .and .u32 (x.getD 0 0) (x.getD 1 0)) (bits .and .u32 (x.getD 0 0) (x.getD 2 0))) (bits .and .u32 (x.getD 1 0) (x.getD 2 0)))
def qS (x w kc : List Int) (i : Nat) : List Int :=
  [IntKind.u32.wrap (qT x w kc i + qU x), x.getD 0 0, x.getD 1 0, x.getD 2 0, IntKind.u32.wrap (x.getD 3 0 + qT x w kc i), x.getD 4 0, x.getD 5 0, x.getD 6 0]
def qN (s w kc : List Int) : Nat → List Int
  | 0 => s
  | i + 1 => qS (qN s w kc i) w kc i
theorem qN_len (s w kc : List Int) (h : s.length = 8) : ∀ i, (qN s w kc i).length = 8
  | 0 => h
  | i + 1 => rfl
def qA (s x : List Int) : Nat → List Int
  | 0 => []
  | i + 1 => qA s x i ++ [IntKind.u32.wrap (s.getD i 0 + x.getD i 0)]
theorem qA_len (s x : List Int) : ∀ i, (qA s x i).length = i
  | 0 => rfl
  | i + 1 => by rw [qA, List.length_append, qA_len s x i]; rfl
def blkR (s kc b : List Int) : List Int := qA s (qN s (wR b 64) kc 64) 8
theorem block_fn0 (s kc b : List Int) (hs : s.length = 8) (hk : kc.length = 64) (hb : b.length = 64) : FnR Tryd.prog G 31 [.lstI .u32 s, .lstI .u32 kc, .lstI .u8 b] [] (.sl 300 1 0 8) [(300, .vec 26 (.ints .u32 (blkR s kc b)))] := by
  have hsg : (if IntKind.u32.signed = true then (-1 : Int) else IntKind.u32.max) = IntKind.u32.max := rfl
  have ht1 : ∀ x : Int, List.take 1 (List.drop 0 [x]) = [x] := fun _ => rfl
  have cw := words_own 32 b hb
  have hwl := wR_len b 64
  rw [blkR]
  generalize wR b 64 = w at *
  have hts : List.take 8 s = s := List.take_of_length_le (by omega)
  refine FnR.of_walk (m := 138) (n0 := 0) tt_ok Tryd.func31 rfl rfl (by simp) (by simp [nmH]) ?_
  rw [show Tryd.f31.results.toList = [.tmp 6] from rfl]
  refine W.seqK fun K hK => W.regionK tt_ok ?_
  simp only [exOps_nil, exOps_cons, exOp_eq, nx_eq, cur_eq, stepQ, ev, ofV, parT, putT, erA, inB, opt, ret, onQ, ap, true_and, Nat.reduceEqDiff, Nat.reduceLT, Nat.reduceAdd, Nat.zero_add, if_false, reduceCtorEq]
  refine hK _ ?_
  clear hK K
  refine W.seqK fun K hK => W.regionK tt_ok ?_
  simp only [exOps_cons, exOp_eq, exCall_eq, nx_eq, cur_eq, evL, stepQ, ev, lk, putT, erA, inB, opt, ret, onQ, ap, true_and, Nat.reduceEqDiff, Nat.reduceLT, Nat.reduceAdd, if_true, if_false, reduceCtorEq, Option.bind_some, Option.map_some]
  refine CallK.with [] [(32, .vec 26 (.ints .u32 w))] _ _ cw call40 (by simp only [AV.nmIn, bnd, req, ret, onQ, AV.isTup, isTupL, true_and, and_self, Bool.false_eq_true, List.append_nil, vw.vwL, vw, AV.free, Bool.or_self]; all_goals (and_intros <;> first | exact AV.subL_refl _ | omega | (simp [AV.sub, entsFree, Ent.free, Row.free]; done) | rfl | (simp [AV.subL_refl]; done))) (by simp [leL]) (by intro n hn; first | (left; revert hn; simp [Nm, lk]; done) | (right; revert hn; simp only [Nm, lk]; split <;> simp <;> omega) | (by_cases h1 : Nm [] n; exact .inl h1; right; revert hn h1; simp only [Nm, lk]; split <;> (try split) <;> (try split) <;> (try split) <;> (try simp) <;> (try omega))) (by simp [entsIn]) ?_
  simp only [callDel, exOps_nil, exOps_cons, exOp_eq, nx_eq, cur_eq, stepQ, ev, lk, putT, erA, inB, opt, ret, onQ, ap, up, er, true_and, Nat.reduceEqDiff, Nat.reduceLT, Nat.reduceAdd, if_true, if_false, reduceCtorEq, List.nil_append, List.map_cons, List.map_nil, List.reverse_cons, List.reverse_nil]
  refine hK _ ?_
  clear hK K
  refine W.seqK fun K hK => W.regionK tt_ok ?_
  simp only [exOps_nil, exOps_cons, exOp_eq, exCall_eq, nx_eq, cur_eq, evL, evP, stepQ, ev, lk, putT, erA, inB, opt, bnd, req, ret, onQ, ap, up, er, intsOf, bltQ, bltV, appQ, appV, srcQ, rowOf, Row.len, Row.sz, Row.take, Row.app, bldA, bslQ, zeroCs, cellsRow, true_and, and_self, or_false, Nat.reduceEqDiff, Nat.reduceLT, Nat.reduceLeDiff, Nat.reduceAdd, Nat.reduceMul, Nat.le_refl, Nat.zero_le, Nat.zero_add, if_true, if_false, reduceCtorEq, Option.bind_some, Option.map_some, List.nil_append, tt_26, tt_59, List.length_nil, hs, List.replicate_zero, List.take_zero, List.nil_append]
  refine hK _ ?_
  clear hK K
  refine W.seqK fun Kx hKx => ?_
  refine W.seqK fun K hK => W.regionK tt_ok ?_
  simp only [exOps_nil, exOps_cons, exOp_eq, nx_eq, cur_eq, stepQ, ev, ofV, putT, erA, inB, opt, ret, onQ, ap, true_and, Nat.reduceEqDiff, Nat.reduceLT, Nat.reduceAdd, if_false, reduceCtorEq]
  refine hK _ ?_
  clear hK K
  refine W.blockK ?_
  refine W.loopS (fun i : Nat => i ≤ 64) (fun i => ⟨[(0, .lstI .u32 s), (1, .lstI .u32 kc), (7, .sl 32 1 0 64), (8, .sl 96 1 0 8), (9, .int .i64 (i : Int))], [(32, .vec 26 (.ints .u32 w)), (96, .vec 26 (.ints .u32 (qN s w kc i)))], 600, 138⟩) (fun i => 64 - i) 0 (by simp) (by simp [qN, wk, leL, lk, nmT, nmE, nmH, AV.nmIn, Ent.nmIn, Row.nmIn]) ?_
  intro i hi K3 hK3
  have hxl := qN_len s w kc hs i
  by_cases hlt : i < 64
  · have c1 : (i : Int) < 64 := by omega
    have hn : qN s w kc (i + 1) = qS (qN s w kc i) w kc i := rfl
    rw [qS, qT, qU, x3, x3] at hn
    generalize hT1 : qN s w kc (i + 1) = X1 at *
    generalize hT0 : qN s w kc i = X at *
    have e6 := turn_fn (X.getD 4 0) 6 (by omega)
    have e11 := turn_fn (X.getD 4 0) 11 (by omega)
    have e25 := turn_fn (X.getD 4 0) 25 (by omega)
    have a2 := turn_fn (X.getD 0 0) 2 (by omega)
    have a13 := turn_fn (X.getD 0 0) 13 (by omega)
    have a22 := turn_fn (X.getD 0 0) 22 (by omega)
    generalize tnK (X.getD 4 0) 6 = q6 at *
    generalize tnK (X.getD 4 0) 11 = q11 at *
    generalize tnK (X.getD 4 0) 25 = q25 at *
    generalize tnK (X.getD 0 0) 2 = q2 at *
    generalize tnK (X.getD 0 0) 13 = q13 at *
    generalize tnK (X.getD 0 0) 22 = q22 at *
    refine W.seqK fun K0 hK0 => ?_
    refine W.seqK fun K hK => W.regionK tt_ok ?_
    simp only [decide_true, exOps_nil, exOps_cons, exOp_eq, nx_eq, cur_eq, stepQ, ev, ofV, lk, putT, erA, inB, opt, bnd, req, ret, onQ, ap, binG, binF, intF, true_and, and_self, Nat.reduceEqDiff, Nat.reduceLT, Nat.reduceAdd, if_true, if_false, reduceCtorEq, c1]
    refine hK _ ?_
    clear hK K
    refine W.cond (b := true) (by simp only [ev, lk, Nat.reduceEqDiff, if_true, if_false, reduceCtorEq]) (fun _ => W.skip ?_) (fun h => absurd h (by simp))
    rw [thn_normal]
    refine hK0 _ ?_
    clear hK0 K0
    refine W.seqK fun K hK => W.blockK ?_
    refine W.seqK fun K hK => W.drawK [⟨0, false, [], false⟩, ⟨0, false, [0], false⟩, ⟨0, false, [0, 1], false⟩, ⟨0, false, [], false⟩, ⟨0, false, [3], false⟩, ⟨0, false, [3, 4], false⟩, ⟨0, false, [0, 1, 2], false⟩, ⟨0, false, [0, 1, 2, 3, 4, 5, 6], false⟩] mix tt_ok (by kernel_rfl) ?_
    simp only [exOp_eq, exD_nil, exD_cons, nxD_eq, cur_eq, flI, ownB, stepQ, ev, ofV, lk, putT, erA, inB, opt, bnd, req, ret, onQ, ap, Kd.elem, ixA, asI, ldP, ldE, Kd.agg, and_true, true_and, and_self, Nat.reduceEqDiff, Nat.reduceLT, Nat.reduceLeDiff, Nat.reduceAdd, Int.reduceLE, Int.reduceToNat, Nat.add_zero, Nat.zero_add, if_true, if_false, Bool.false_eq_true, reduceCtorEq, tt_26, tt_59, hxl]
    repeat (refine ⟨by omega, ?_⟩)
    refine hK _ ?_
    clear hK K
    refine W.seqK fun K hK => W.drawK [⟨0, false, [], false⟩, ⟨0, false, [0], false⟩, ⟨0, false, [0, 1], false⟩, ⟨0, false, [], false⟩, ⟨0, false, [3], false⟩, ⟨0, false, [], false⟩, ⟨0, false, [3, 4, 5], false⟩, ⟨0, false, [3, 4, 5, 6], false⟩, ⟨0, false, [], false⟩, ⟨0, false, [3, 4, 5, 6, 8], false⟩, ⟨0, false, [3, 4, 5, 6, 7, 8, 9], false⟩, ⟨0, false, [0, 1, 2, 3, 4, 5, 6, 7, 8, 9, 10], false⟩, ⟨0, false, [], false⟩, ⟨0, false, [], false⟩, ⟨0, false, [13], false⟩, ⟨0, false, [13, 14], false⟩, ⟨0, false, [12, 13, 14, 15], false⟩, ⟨0, false, [], false⟩, ⟨0, false, [17], false⟩, ⟨0, false, [], false⟩, ⟨0, false, [19], false⟩, ⟨0, false, [19, 20], false⟩, ⟨0, false, [17, 18, 19, 20, 21], false⟩, ⟨0, false, [12, 13, 14, 15, 16, 17, 18, 19, 20, 21, 22], false⟩, ⟨0, false, [0, 1, 2, 3, 4, 5, 6, 7, 8, 9, 10, 11, 12, 13, 14, 15, 16, 17, 18, 19, 20, 21, 22, 23], false⟩, ⟨0, false, [], false⟩, ⟨0, false, [], false⟩, ⟨0, false, [25, 26], false⟩, ⟨0, false, [25, 26, 27], false⟩, ⟨0, false, [0, 1, 2, 3, 4, 5, 6, 7, 8, 9, 10, 11, 12, 13, 14, 15, 16, 17, 18, 19, 20, 21, 22, 23, 24, 25, 26, 27, 28], false⟩, ⟨0, false, [], false⟩, ⟨0, false, [], false⟩, ⟨0, false, [30, 31], false⟩, ⟨0, false, [30, 31, 32], false⟩, ⟨0, false, [0, 1, 2, 3, 4, 5, 6, 7, 8, 9, 10, 11, 12, 13, 14, 15, 16, 17, 18, 19, 20, 21, 22, 23, 24, 25, 26, 27, 28, 29, 30, 31, 32, 33], false⟩, ⟨0, false, [0, 1, 2, 3, 4, 5, 6, 7, 8, 9, 10, 11, 12, 13, 14, 15, 16, 17, 18, 19, 20, 21, 22, 23, 24, 25, 26, 27, 28, 29, 30, 31, 32, 33, 34], false⟩] mix tt_ok (by kernel_rfl) ?_
    simp only [exOp_eq, exCall_eq, exD_cons, nxD_eq, cur_eq, flI, ownB, evL, stepQ, ev, ofV, lk, putT, erA, inB, opt, bnd, req, ret, onQ, ap, Kd.elem, ixA, asI, ldP, ldE, Kd.agg, and_true, true_and, and_self, Nat.reduceEqDiff, Nat.reduceLT, Nat.reduceAdd, Int.reduceLE, Int.reduceToNat, Nat.le_refl, Nat.zero_add, if_true, if_false, Bool.false_eq_true, reduceCtorEq, Option.bind_some, Option.map_some, tt_26, tt_59, hxl]
    repeat (refine ⟨by omega, ?_⟩)
    refine CallK.pure _ _ e6 call41 (by simp only [AV.nmIn, bnd, req, ret, onQ, AV.isTup, isTupL, true_and, and_self, Bool.false_eq_true, List.append_nil, vw.vwL, vw, AV.free, Bool.or_self]; all_goals (and_intros <;> first | exact AV.subL_refl _ | omega | (simp [AV.sub]; done) | rfl | (simp [AV.subL_refl]; done) | (simp; exact AV.subL_refl _))) ?_
    simp only [exOp_eq, exCall_eq, exD_cons, nxD_eq, cur_eq, flI, ownB, evL, stepQ, ev, ofV, lk, putT, erA, inB, opt, ret, onQ, ap, true_and, Nat.reduceEqDiff, Nat.reduceLT, Nat.reduceAdd, if_true, if_false, reduceCtorEq, Option.bind_some, Option.map_some]
    repeat (refine ⟨by omega, ?_⟩)
    refine CallK.pure _ _ e11 call41 (by simp only [AV.nmIn, bnd, req, ret, onQ, AV.isTup, isTupL, true_and, and_self, Bool.false_eq_true, List.append_nil, vw.vwL, vw, AV.free, Bool.or_self]; all_goals (and_intros <;> first | exact AV.subL_refl _ | omega | (simp [AV.sub]; done) | rfl | (simp [AV.subL_refl]; done) | (simp; exact AV.subL_refl _))) ?_
    simp only [exOp_eq, exCall_eq, exD_cons, nxD_eq, cur_eq, flI, ownB, evL, stepQ, ev, ofV, lk, putT, erA, inB, opt, bnd, req, ret, onQ, ap, binG, binF, intF, true_and, and_self, Nat.reduceEqDiff, Nat.reduceLT, Nat.reduceAdd, if_true, if_false, reduceCtorEq, Option.bind_some, Option.map_some]
    repeat (refine ⟨by omega, ?_⟩)
    refine CallK.pure _ _ e25 call41 (by simp only [AV.nmIn, bnd, req, ret, onQ, AV.isTup, isTupL, true_and, and_self, Bool.false_eq_true, List.append_nil, vw.vwL, vw, AV.free, Bool.or_self]; all_goals (and_intros <;> first | exact AV.subL_refl _ | omega | (simp [AV.sub]; done) | rfl | (simp [AV.subL_refl]; done) | (simp; exact AV.subL_refl _))) ?_
    simp only [exOp_eq, exD_nil, exD_cons, nxD_eq, cur_eq, flI, ownB, stepQ, ev, ofV, lk, putT, erA, inB, opt, bnd, req, ret, onQ, ap, binG, binF, intF, unF, Kd.elem, ixA, asI, ldP, ldE, ldC, ldS, Kd.agg, comps, csize, takeI, takeC, dropC, and_true, true_and, and_self, Nat.reduceEqDiff, Nat.reduceLT, Nat.reduceLeDiff, Nat.reduceAdd, Nat.reduceSub, Int.reduceLE, Int.reduceToNat, Nat.sub_self, Int.toNat_natCast, Nat.le_refl, Nat.zero_add, if_true, if_false, Bool.false_eq_true, reduceCtorEq, Option.bind_some, Option.map_some, tt_26, tt_59, hxl, hwl, hk, Int.toNat_natCast, hsg]
    repeat (refine ⟨by omega, ?_⟩)
    refine hK _ ?_
    clear hK K
    refine W.seqK fun K hK => W.drawK [⟨0, false, [], false⟩, ⟨0, false, [0], false⟩, ⟨0, false, [], false⟩, ⟨0, false, [0, 1, 2], false⟩, ⟨0, false, [0, 1, 2, 3], false⟩, ⟨0, false, [], false⟩, ⟨0, false, [0, 1, 2, 3, 5], false⟩, ⟨0, false, [0, 1, 2, 3, 4, 5, 6], false⟩, ⟨0, false, [], false⟩, ⟨0, false, [], false⟩, ⟨0, false, [9], false⟩, ⟨0, false, [9, 10], false⟩, ⟨0, false, [8, 9, 10, 11], false⟩, ⟨0, false, [], false⟩, ⟨0, false, [], false⟩, ⟨0, false, [14], false⟩, ⟨0, false, [14, 15], false⟩, ⟨0, false, [13, 14, 15, 16], false⟩, ⟨0, false, [8, 9, 10, 11, 12, 13, 14, 15, 16, 17], false⟩, ⟨0, false, [], false⟩, ⟨0, false, [19], false⟩, ⟨0, false, [19, 20], false⟩, ⟨0, false, [], false⟩, ⟨0, false, [22], false⟩, ⟨0, false, [22, 23], false⟩, ⟨0, false, [19, 20, 21, 22, 23, 24], false⟩, ⟨0, false, [8, 9, 10, 11, 12, 13, 14, 15, 16, 17, 18, 19, 20, 21, 22, 23, 24, 25], false⟩, ⟨0, false, [0, 1, 2, 3, 4, 5, 6, 7, 8, 9, 10, 11, 12, 13, 14, 15, 16, 17, 18, 19, 20, 21, 22, 23, 24, 25, 26], false⟩, ⟨0, false, [0, 1, 2, 3, 4, 5, 6, 7, 8, 9, 10, 11, 12, 13, 14, 15, 16, 17, 18, 19, 20, 21, 22, 23, 24, 25, 26, 27], false⟩] mix tt_ok (by kernel_rfl) ?_
    simp only [exOp_eq, exCall_eq, exD_cons, nxD_eq, cur_eq, flI, ownB, evL, stepQ, ev, ofV, lk, putT, erA, inB, opt, ret, onQ, ap, true_and, Nat.reduceEqDiff, Nat.reduceLT, Nat.reduceAdd, if_true, if_false, reduceCtorEq, Option.bind_some, Option.map_some]
    refine CallK.pure _ _ a2 call41 (by simp only [AV.nmIn, bnd, req, ret, onQ, AV.isTup, isTupL, true_and, and_self, Bool.false_eq_true, List.append_nil, vw.vwL, vw, AV.free, Bool.or_self]; all_goals (and_intros <;> first | exact AV.subL_refl _ | omega | (simp [AV.sub]; done) | rfl | (simp [AV.subL_refl]; done) | (simp; exact AV.subL_refl _))) ?_
    simp only [exOp_eq, exCall_eq, exD_cons, nxD_eq, cur_eq, flI, ownB, evL, stepQ, ev, ofV, lk, putT, erA, inB, opt, ret, onQ, ap, true_and, Nat.reduceEqDiff, Nat.reduceLT, Nat.reduceAdd, if_true, if_false, reduceCtorEq, Option.bind_some, Option.map_some]
    refine CallK.pure _ _ a13 call41 (by simp only [AV.nmIn, bnd, req, ret, onQ, AV.isTup, isTupL, true_and, and_self, Bool.false_eq_true, List.append_nil, vw.vwL, vw, AV.free, Bool.or_self]; all_goals (and_intros <;> first | exact AV.subL_refl _ | omega | (simp [AV.sub]; done) | rfl | (simp [AV.subL_refl]; done) | (simp; exact AV.subL_refl _))) ?_
    simp only [exOp_eq, exCall_eq, exD_cons, nxD_eq, cur_eq, flI, ownB, evL, stepQ, ev, ofV, lk, putT, erA, inB, opt, bnd, req, ret, onQ, ap, binG, binF, intF, true_and, and_self, Nat.reduceEqDiff, Nat.reduceLT, Nat.reduceAdd, if_true, if_false, reduceCtorEq, Option.bind_some, Option.map_some]
    refine CallK.pure _ _ a22 call41 (by simp only [AV.nmIn, bnd, req, ret, onQ, AV.isTup, isTupL, true_and, and_self, Bool.false_eq_true, List.append_nil, vw.vwL, vw, AV.free, Bool.or_self]; all_goals (and_intros <;> first | exact AV.subL_refl _ | omega | (simp [AV.sub]; done) | rfl | (simp [AV.subL_refl]; done) | (simp; exact AV.subL_refl _))) ?_
    simp only [exOp_eq, exD_nil, exD_cons, nxD_eq, cur_eq, flI, ownB, stepQ, ev, ofV, lk, putT, erA, inB, opt, bnd, req, ret, onQ, ap, binG, binF, intF, Kd.elem, ixA, asI, ldP, ldE, Kd.agg, and_true, true_and, and_self, Nat.reduceEqDiff, Nat.reduceLT, Nat.reduceLeDiff, Nat.reduceAdd, Int.reduceLE, Int.reduceToNat, Nat.zero_add, if_true, if_false, Bool.false_eq_true, reduceCtorEq, tt_26, tt_59, hxl]
    repeat (refine ⟨by omega, ?_⟩)
    refine hK _ ?_
    clear hK K
    refine exD_sound (A := [⟨0, false, [], false⟩, ⟨0, false, [], false⟩, ⟨0, false, [0, 1], false⟩, ⟨0, false, [], false⟩, ⟨0, false, [3], false⟩, ⟨0, false, [3, 4], false⟩, ⟨0, false, [], false⟩, ⟨0, false, [6], false⟩, ⟨0, false, [6, 7], false⟩, ⟨0, false, [], false⟩, ⟨0, false, [9], false⟩, ⟨0, false, [9, 10], false⟩, ⟨0, false, [], false⟩, ⟨0, false, [12], false⟩, ⟨0, false, [12, 13], false⟩, ⟨0, false, [], false⟩, ⟨0, false, [12, 13, 14, 15], false⟩, ⟨0, false, [], false⟩, ⟨0, false, [17], false⟩, ⟨0, false, [17, 18], false⟩, ⟨0, false, [], false⟩, ⟨0, false, [20], false⟩, ⟨0, false, [20, 21], false⟩, ⟨0, false, [], false⟩, ⟨0, false, [23], false⟩, ⟨0, false, [23, 24], false⟩, ⟨1, false, [0, 1, 2, 3, 4, 5, 6, 7, 8, 9, 10, 11, 12, 13, 14, 15, 16, 17, 18, 19, 20, 21, 22, 23, 24, 25], false⟩, ⟨0, false, [0, 1, 2, 3, 4, 5, 6, 7, 8, 9, 10, 11, 12, 13, 14, 15, 16, 17, 18, 19, 20, 21, 22, 23, 24, 25, 26], false⟩]) mix tt_ok (by kernel_rfl) ?_
    simp only [exOp_eq, exD_nil, exD_cons, nxD_eq, cur_eq, flI, ownB, ownL, evP, stepQ, ev, ofV, lk, putT, erA, inB, opt, bnd, req, ret, onQ, ap, up, er, AV.isTup, AV.isAgg, binG, binF, intF, intsOf, Kd.elem, ixA, asI, ldP, ldE, Kd.agg, comps, szL, csize, takeI, takeC, dropC, stC, stS, Row.len, Row.sz, bldA, bslQ, zeroCs, cellsRow, thn_normal, inb_normal, and_true, true_and, and_self, and_false, Nat.reduceEqDiff, Nat.reduceLT, Nat.reduceLeDiff, Nat.reduceAdd, Nat.reduceSub, Nat.reduceMul, Int.reduceLE, Int.reduceToNat, Nat.sub_self, Nat.le_refl, Nat.add_zero, Nat.zero_add, if_true, if_false, Bool.false_eq_true, reduceCtorEq, Option.bind_some, Option.map_some, List.append_nil, List.nil_append, List.cons_append, tt_26, tt_59, hxl, lit8, List.set_cons_zero, List.set_cons_succ, List.length_cons, List.length_nil]
    repeat (refine ⟨by omega, ?_⟩)
    refine hK _ ?_
    refine W.region tt_ok ?_
    simp only [exOps_nil, exOps_cons, exOp_eq, nx_eq, cur_eq, stepQ, ev, ofV, lk, putT, erA, inB, opt, bnd, req, ret, onQ, ap, binG, binF, intF, thn_normal, true_and, and_self, Nat.reduceEqDiff, Nat.reduceLT, Nat.reduceAdd, if_true, if_false, reduceCtorEq, wrap_up i (by omega)]
    refine hK3 _ (i + 1) 2216 96 (by omega) (by omega) ⟨⟨by simp [Nm, lk], by simp [Nm, lk]⟩, by simp, by simp⟩ ?_
    rw [hT1, hn]
    simp [St.swap, tmMap, enMap, swp, AV.map, Ent.map, Row.map, wk, leL, lk, nmT, nmE, nmH, AV.nmIn, Ent.nmIn, Row.nmIn]
  have hi' : i = 64 := by omega
  subst hi'
  have c1 : ¬ ((64 : Nat) : Int) < 64 := by omega
  generalize qN s w kc 64 = X at *
  refine W.seqK fun K0 hK0 => ?_
  refine W.seqK fun K hK => W.regionK tt_ok ?_
  simp only [decide_false, exOps_nil, exOps_cons, exOp_eq, nx_eq, cur_eq, stepQ, ev, ofV, lk, putT, erA, inB, opt, bnd, req, ret, onQ, ap, binG, binF, intF, true_and, and_self, Nat.reduceEqDiff, Nat.reduceLT, Nat.reduceAdd, if_true, if_false, reduceCtorEq, c1]
  refine hK _ ?_
  clear hK K
  refine W.cond (b := false) (by simp only [ev, lk, Nat.reduceEqDiff, if_true, if_false, reduceCtorEq]) (fun h => absurd h (by simp)) (fun _ => W.exit ?_)
  simp only [thn_normal, thn_exit, inb_exit, if_true]
  clear hK0 K0
  refine hKx _ ?_
  clear hK3 hlt hi c1 hKx
  refine W.seqK fun K hK => W.regionK tt_ok ?_
  simp only [exOps_nil, exOps_cons, exOp_eq, nx_eq, cur_eq, stepQ, ev, ofV, putT, erA, inB, opt, ret, onQ, ap, true_and, Nat.reduceEqDiff, Nat.reduceLT, Nat.reduceAdd, if_false, reduceCtorEq]
  refine hK _ ?_
  clear hK K
  refine W.seqK fun Kx hKx => ?_
  refine W.seqK fun K hK => W.regionK tt_ok ?_
  simp only [exOps_nil, exOps_cons, exOp_eq, nx_eq, cur_eq, stepQ, ev, ofV, putT, erA, inB, opt, ret, onQ, ap, true_and, Nat.reduceEqDiff, Nat.reduceLT, Nat.reduceAdd, if_false, reduceCtorEq]
  refine hK _ ?_
  clear hK K
  refine W.blockK ?_
  refine W.loopS (fun i : Nat => i ≤ 8) (fun i => ⟨[(0, .lstI .u32 s), (8, .sl 96 1 0 8), (14, if i = 0 then .nils else .sl 300 1 0 i), (15, .int .i64 (i : Int))], (96, .vec 26 (.ints .u32 X)) :: if i = 0 then [] else [(300, .vec 26 (.ints .u32 (qA s X i)))], 700, 138⟩) (fun i => 8 - i) 0 (by simp) (by simp [wk, leL, lk, nmT, nmE, nmH, AV.nmIn, Ent.nmIn, Row.nmIn]) ?_
  intro i hi K3 hK3
  have hal := qA_len s X i
  by_cases hlt : i < 8
  · have c1 : (i : Int) < 8 := by omega
    have hn : qA s X (i + 1) = qA s X i ++ [IntKind.u32.wrap (s.getD i 0 + X.getD i 0)] := rfl
    generalize hT1 : qA s X (i + 1) = L1 at *
    generalize hT0 : qA s X i = L at *
    have htL : List.take i L = L := List.take_of_length_le (by omega)
    by_cases hi0 : i = 0
    · have hL : L = [] := List.length_eq_zero_iff.1 (by omega)
      simp only [if_pos hi0]
      refine W.seqK fun K0 hK0 => ?_
      refine W.seqK fun K hK => W.regionK tt_ok ?_
      simp only [decide_true, exOps_nil, exOps_cons, exOp_eq, nx_eq, cur_eq, stepQ, ev, ofV, lk, putT, erA, inB, opt, bnd, req, ret, onQ, ap, binG, binF, intF, true_and, and_self, Nat.reduceEqDiff, Nat.reduceLT, Nat.reduceAdd, if_true, if_false, reduceCtorEq, c1]
      refine hK _ ?_
      clear hK K
      refine W.cond (b := true) (by simp only [ev, lk, Nat.reduceEqDiff, if_true, if_false, reduceCtorEq]) (fun _ => W.skip ?_) (fun h => absurd h (by simp))
      rw [thn_normal]
      refine hK0 _ ?_
      clear hK0 K0
      refine W.seqK fun K hK => W.blockK ?_
      refine exD_sound (A := [⟨0, false, [], false⟩, ⟨0, false, [], false⟩, ⟨0, false, [], false⟩, ⟨0, false, [1, 2], false⟩, ⟨0, false, [1, 2, 3], false⟩, ⟨0, false, [], false⟩, ⟨0, false, [], false⟩, ⟨0, false, [5, 6], false⟩, ⟨0, false, [5, 6, 7], false⟩, ⟨0, false, [1, 2, 3, 4, 5, 6, 7, 8], false⟩, ⟨1, false, [1, 2, 3, 4, 5, 6, 7, 8, 9], false⟩, ⟨2, false, [0, 1, 2, 3, 4, 5, 6, 7, 8, 9, 10], false⟩, ⟨0, false, [0, 1, 2, 3, 4, 5, 6, 7, 8, 9, 10, 11], false⟩]) mix tt_ok (by kernel_rfl) ?_
      simp only [exOp_eq, exCall_eq, exD_nil, exD_cons, nxD_eq, cur_eq, curV_eq, flI, ownB, ownL, evL, evP, stepQ, ev, lk, putT, erA, inB, opt, bnd, req, ret, onQ, ap, up, er, AV.isTup, AV.isAgg, binG, binF, intF, intsOf, Kd.elem, ixA, asI, ldP, ldE, ldC, ldS, Kd.agg, comps, szL, csize, takeI, takeC, dropC, stC, stS, bltQ, bltV, appQ, appV, srcQ, Row.len, Row.sz, Row.take, Row.drop, Ent.row, Row.lst, bldA, bslQ, zeroCs, cellsRow, thn_normal, inb_normal, and_true, true_and, and_self, and_false, Nat.reduceEqDiff, Nat.reduceLT, Nat.reduceLeDiff, Nat.reduceAdd, Nat.reduceSub, Nat.reduceMul, Nat.sub_self, Int.toNat_natCast, Nat.le_refl, Nat.add_zero, Nat.zero_add, if_true, if_false, Bool.false_eq_true, reduceCtorEq, ne_eq, not_false_eq_true, Option.bind_some, Option.map_some, List.append_nil, List.nil_append, List.cons_append, tt_26, tt_59, hxl, hs, Int.toNat_natCast, lit1, List.set_cons_zero, List.length_cons, List.length_nil, ht1]
      refine ⟨by omega, by omega, by omega, Or.inl ?_⟩
      refine hK _ ?_
      refine W.region tt_ok ?_
      simp only [exOps_nil, exOps_cons, exOp_eq, nx_eq, cur_eq, stepQ, ev, ofV, lk, putT, erA, inB, opt, bnd, req, ret, onQ, ap, binG, binF, intF, thn_normal, true_and, and_self, Nat.reduceEqDiff, Nat.reduceLT, Nat.reduceAdd, if_true, if_false, reduceCtorEq, wrap_up i (by omega)]
      refine hK3 _ (i + 1) 908 300 (by omega) (by omega) ⟨⟨by simp [Nm, lk], by simp [Nm, lk]⟩, by simp, by simp⟩ ?_
      rw [hT1, hn]
      simp [hi0, hL, St.swap, tmMap, enMap, swp, AV.map, Ent.map, Row.map, wk, leL, lk, nmT, nmE, nmH, AV.nmIn, Ent.nmIn, Row.nmIn]
    · simp only [if_neg hi0]
      refine W.seqK fun K0 hK0 => ?_
      refine W.seqK fun K hK => W.regionK tt_ok ?_
      simp only [decide_true, exOps_nil, exOps_cons, exOp_eq, nx_eq, cur_eq, stepQ, ev, ofV, lk, putT, erA, inB, opt, bnd, req, ret, onQ, ap, binG, binF, intF, true_and, and_self, Nat.reduceEqDiff, Nat.reduceLT, Nat.reduceAdd, if_true, if_false, reduceCtorEq, c1]
      refine hK _ ?_
      clear hK K
      refine W.cond (b := true) (by simp only [ev, lk, Nat.reduceEqDiff, if_true, if_false, reduceCtorEq]) (fun _ => W.skip ?_) (fun h => absurd h (by simp))
      rw [thn_normal]
      refine hK0 _ ?_
      clear hK0 K0
      refine W.seqK fun K hK => W.blockK ?_
      refine exD_sound (A := [⟨0, false, [], false⟩, ⟨0, false, [], false⟩, ⟨0, false, [], false⟩, ⟨0, false, [1, 2], false⟩, ⟨0, false, [1, 2, 3], false⟩, ⟨0, false, [], false⟩, ⟨0, false, [], false⟩, ⟨0, false, [5, 6], false⟩, ⟨0, false, [5, 6, 7], false⟩, ⟨0, false, [1, 2, 3, 4, 5, 6, 7, 8], false⟩, ⟨1, false, [1, 2, 3, 4, 5, 6, 7, 8, 9], false⟩, ⟨2, false, [0, 1, 2, 3, 4, 5, 6, 7, 8, 9, 10], false⟩, ⟨0, false, [0, 1, 2, 3, 4, 5, 6, 7, 8, 9, 10, 11], false⟩]) mix tt_ok (by kernel_rfl) ?_
      simp only [exOp_eq, exCall_eq, exD_nil, exD_cons, nxD_eq, cur_eq, flI, ownB, ownL, evL, evP, stepQ, ev, lk, putT, erA, inB, opt, bnd, req, ret, onQ, ap, up, er, AV.isTup, AV.isAgg, binG, binF, intF, intsOf, Kd.elem, ixA, asI, ldP, ldE, ldC, ldS, Kd.agg, comps, szL, csize, takeI, takeC, dropC, stC, stS, bltQ, bltV, appR, appQ, appV, srcQ, Row.len, Row.sz, Row.take, Row.drop, Row.app, Ent.row, bldA, bslQ, zeroCs, cellsRow, thn_normal, inb_normal, and_true, true_and, and_self, and_false, or_false, Nat.reduceEqDiff, Nat.reduceLT, Nat.reduceLeDiff, Nat.reduceAdd, Nat.reduceSub, Nat.reduceMul, Nat.sub_self, Int.toNat_natCast, Nat.le_refl, Nat.add_zero, Nat.zero_add, if_true, if_false, Bool.false_eq_true, reduceCtorEq, Option.bind_some, Option.map_some, List.append_nil, List.nil_append, List.cons_append, tt_26, tt_59, hxl, hs, Int.toNat_natCast, lit1, List.set_cons_zero, List.length_cons, List.length_nil, ht1, htL]
      refine ⟨by omega, by omega, by omega, by omega, ?_⟩
      refine hK _ ?_
      refine W.region tt_ok ?_
      simp only [exOps_nil, exOps_cons, exOp_eq, nx_eq, cur_eq, stepQ, ev, ofV, lk, putT, erA, inB, opt, bnd, req, ret, onQ, ap, binG, binF, intF, thn_normal, true_and, and_self, Nat.reduceEqDiff, Nat.reduceLT, Nat.reduceAdd, if_true, if_false, reduceCtorEq, wrap_up i (by omega)]
      refine hK3 _ (i + 1) 908 300 (by omega) (by omega) ⟨⟨by simp [Nm, lk], by simp [Nm, lk]⟩, by simp, by simp⟩ ?_
      rw [hT1, hn]
      simp [St.swap, tmMap, enMap, swp, AV.map, Ent.map, Row.map, wk, leL, lk, nmT, nmE, nmH, AV.nmIn, Ent.nmIn, Row.nmIn]
  have hi' : i = 8 := by omega
  subst hi'
  have c1 : ¬ ((8 : Nat) : Int) < 8 := by omega
  have h8 : ¬ ((8 : Nat) = 0) := by omega
  simp only [if_neg h8]
  refine W.seqK fun K0 hK0 => ?_
  refine W.seqK fun K hK => W.regionK tt_ok ?_
  simp only [decide_false, exOps_nil, exOps_cons, exOp_eq, nx_eq, cur_eq, stepQ, ev, ofV, lk, putT, erA, inB, opt, bnd, req, ret, onQ, ap, binG, binF, intF, true_and, and_self, Nat.reduceEqDiff, Nat.reduceLT, Nat.reduceAdd, if_true, if_false, reduceCtorEq, c1]
  refine hK _ ?_
  clear hK K
  refine W.cond (b := false) (by simp only [ev, lk, Nat.reduceEqDiff, if_true, if_false, reduceCtorEq]) (fun h => absurd h (by simp)) (fun _ => W.exit ?_)
  simp only [thn_normal, thn_exit, inb_exit, if_true]
  clear hK0 K0
  refine hKx _ ?_
  refine W.seqK fun K hK => W.regionK tt_ok ?_
  simp only [exOps_nil, exOps_cons, exOp_eq, nx_eq, cur_eq, stepQ, ev, lk, putT, erA, inB, opt, ret, onQ, ap, true_and, Nat.reduceEqDiff, Nat.reduceLT, Nat.reduceAdd, if_true, if_false, reduceCtorEq]
  refine hK _ ?_
  clear hK K
  refine W.ret ?_
  simp only [fin_ret, finB, resQ, resV, leL, AV.nmIn, entsIn, lk, opt, bnd, req, ret, onQ, AV.isTup, and_true, true_and, and_self, Nat.reduceEqDiff, if_true, if_false, reduceCtorEq]
  simp [Nm, lk, Ent.nmIn, Row.nmIn]
theorem block_own (Y : Nat) (s kc b : List Int) (hs : s.length = 8) (hk : kc.length = 64) (hb : b.length = 64) : FnR Tryd.prog G 31 [.lstI .u32 s, .lstI .u32 kc, .lstI .u8 b] [] (.sl Y 1 0 8) [(Y, .vec 26 (.ints .u32 (blkR s kc b)))] := by
  have h := (block_fn0 s kc b hs hk hb).rename 300 Y
  have e : swp 300 Y 300 = Y := by simp [swp]
  simpa only [AV.map, enMap, Ent.map, Row.map, e] using h
theorem call31 : Callable Tryd.prog 31 := ⟨_, Tryd.func31, by kernel_rfl, by kernel_rfl⟩
theorem blkR_len (s kc b : List Int) : (blkR s kc b).length = 8 := qA_len _ _ 8
end Go.Proofs.YtageadccfdbmjaaDoor
