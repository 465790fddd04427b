/- The document's roots of the first primes. -/
import Derived.Test.YtageadccfdbmjaaDoorRsH
-- TT 2 3 4 5 22 26 28 59 71
set_option linter.unusedVariables false
set_option linter.unusedSimpArgs false
namespace Go.Proofs.YtageadccfdbmjaaDoor
open Sx
set_option maxRecDepth 100000
set_option maxHeartbeats 1000000
def rtL (L : List Int) (pw k : Nat) : List Int := (L.take k).map fun p => rootN p pw
theorem rtL_s (L : List Int) (pw k : Nat) (h : k < L.length) : rtL L pw (k + 1) = rtL L pw k ++ [rootN (L.getD k 0) pw] := by
  rw [rtL, List.take_succ_eq_append_getElem h, List.map_append, show L.getD k 0 = L[k] by simp [List.getD_eq_getElem?_getD, h]]; rfl
theorem rtL_len (L : List Int) (pw k : Nat) (h : k ≤ L.length) : (rtL L pw k).length = k := by rw [rtL, List.length_map, List.length_take]; omega
theorem roots_fn0 (N K pw : Nat) (hp1 : 1 ≤ pw) (hp3 : pw ≤ 3) (hK : K ≤ 400) (h1 : ∀ k, k < K → (prK k).length < N) (h2 : (prK K).length = N) (h0 : K ≠ 0) : FnR Tryd.prog G 29 [.int .i64 (N : Int), .int .i64 (pw : Int)] [] (.sl 200 1 0 N) [(200, .vec 26 (.ints .u32 (rtL (prK K) pw N)))] := by
  have ht1 : ∀ x : Int, List.take 1 (List.drop 0 [x]) = [x] := fun _ => rfl
  have hNK : N ≤ K := by have := (prK_len K).1; omega
  have cp := primes_own 48 N K hK h1 h2 h0
  have hN0 : N ≠ 0 := by have := (prK_len K).2 h0; omega
  generalize prK K = L at *
  refine FnR.of_walk (m := 25) (n0 := 0) tt_ok Tryd.func29 rfl rfl (by simp) (by simp [nmH]) ?_
  rw [show Tryd.f29.results.toList = [.tmp 4] from rfl]
  refine W.seqK fun K hK => W.regionK tt_ok ?_
  simp only [exOps_nil, exOps_cons, exOp_eq, nx_eq, cur_eq, stepQ, ev, ofV, parT, putT, erA, inB, opt, ret, onQ, ap, true_and, Nat.reduceEqDiff, Nat.reduceLT, Nat.zero_add, if_false, reduceCtorEq]
  refine hK _ ?_
  clear hK K
  refine W.seqK fun K hK => W.regionK tt_ok ?_
  simp only [exOps_nil, exOps_cons, exOp_eq, nx_eq, cur_eq, stepQ, ev, ofV, putT, erA, inB, opt, ret, onQ, ap, true_and, Nat.reduceEqDiff, Nat.reduceLT, Nat.reduceAdd, if_false, reduceCtorEq]
  refine hK _ ?_
  clear hK K
  refine W.seqK fun K hK => W.regionK tt_ok ?_
  simp only [exOps_cons, exOp_eq, exCall_eq, nx_eq, cur_eq, evL, stepQ, ev, lk, putT, erA, inB, opt, ret, onQ, ap, true_and, Nat.reduceEqDiff, Nat.reduceLT, Nat.reduceAdd, if_true, if_false, reduceCtorEq, Option.bind_some, Option.map_some]
  refine CallK.with [] [(48, .vec 28 (.ints .u64 L))] _ _ cp call38 (by simp only [AV.nmIn, bnd, req, ret, onQ, AV.isTup, isTupL, true_and, and_self, Bool.false_eq_true, List.append_nil, vw.vwL, vw, AV.free, Bool.or_self]; all_goals (and_intros <;> first | exact AV.subL_refl _ | omega | (simp [AV.sub, entsFree, Ent.free, Row.free]; done) | rfl | (simp [AV.subL_refl]; done))) (by simp [leL]) (by intro n hn; first | (left; revert hn; simp [Nm, lk]; done) | (right; revert hn; simp only [Nm, lk]; split <;> simp <;> omega) | (by_cases h1 : Nm [] n; exact .inl h1; right; revert hn h1; simp only [Nm, lk]; split <;> (try split) <;> (try split) <;> (try split) <;> (try simp) <;> (try omega))) (by simp [entsIn]) ?_
  simp only [callDel, exOps_nil, exOps_cons, exOp_eq, nx_eq, cur_eq, stepQ, ev, lk, putT, erA, inB, opt, ret, onQ, ap, up, er, true_and, Nat.reduceEqDiff, Nat.reduceLT, Nat.reduceAdd, if_true, if_false, reduceCtorEq, List.nil_append, List.map_cons, List.map_nil, List.reverse_cons, List.reverse_nil]
  refine hK _ ?_
  clear hK K
  refine W.seqK fun Kx hKx => ?_
  refine W.seqK fun K hK => W.regionK tt_ok ?_
  simp only [exOps_nil, exOps_cons, exOp_eq, nx_eq, cur_eq, stepQ, ev, ofV, putT, erA, inB, opt, ret, onQ, ap, true_and, Nat.reduceEqDiff, Nat.reduceLT, Nat.reduceAdd, if_false, reduceCtorEq]
  refine hK _ ?_
  clear hK K
  refine W.blockK ?_
  refine W.loopS (fun k : Nat => k ≤ N) (fun k => ⟨[(0, .int .i64 (N : Int)), (1, .int .i64 (pw : Int)), (5, if k = 0 then .nils else .sl 200 1 0 k), (6, .sl 48 1 0 N), (7, .int .i64 (k : Int))], (48, .vec 28 (.ints .u64 L)) :: if k = 0 then [] else [(200, .vec 26 (.ints .u32 (rtL L pw k)))], 512, 25⟩) (fun k => N - k) 0 (by simp) (by simp [wk, leL, lk, nmT, nmE, nmH, AV.nmIn, Ent.nmIn, Row.nmIn]) ?_
  intro k hk K3 hK3
  have hl := rtL_len L pw k (by omega)
  by_cases hlt : k < N
  · have hs := rtL_s L pw k (by omega)
    have cr := root_fn (L.getD k 0) pw hp1 hp3
    have c1 : (k : Int) < (N : Int) := by omega
    generalize rootN (L.getD k 0) pw = r at *
    generalize hT1 : rtL L pw (k + 1) = L1 at *
    generalize hT0 : rtL L pw k = R at *
    have htR : List.take k R = R := List.take_of_length_le (by omega)
    by_cases hk0 : k = 0
    · have hR : R = [] := List.length_eq_zero_iff.1 (by omega)
      simp only [if_pos hk0]
      refine W.seqK fun K0 hK0 => ?_
      refine W.seqK fun K hK => W.regionK tt_ok ?_
      simp only [decide_true, exOps_nil, exOps_cons, exOp_eq, nx_eq, cur_eq, stepQ, ev, lk, putT, erA, inB, opt, bnd, req, ret, onQ, ap, binG, binF, intF, true_and, and_self, Nat.reduceEqDiff, Nat.reduceLT, Nat.reduceAdd, if_true, if_false, reduceCtorEq, c1]
      refine hK _ ?_
      clear hK K
      refine W.cond (b := true) (by simp only [ev, lk, Nat.reduceEqDiff, if_true, if_false, reduceCtorEq]) (fun _ => W.skip ?_) (fun h => absurd h (by simp))
      rw [thn_normal]
      refine hK0 _ ?_
      clear hK0 K0
      refine W.seqK fun K hK => W.blockK ?_
      refine W.region tt_ok ?_
      simp only [exOps_cons, exOp_eq, exCall_eq, nx_eq, cur_eq, evL, stepQ, ev, lk, putT, erA, inB, opt, bnd, req, ret, onQ, ap, Kd.elem, ixA, asI, ldP, ldE, Kd.agg, and_true, true_and, Nat.reduceEqDiff, Nat.reduceLT, Nat.reduceAdd, Int.toNat_natCast, Nat.zero_add, if_true, if_false, Bool.false_eq_true, reduceCtorEq, Option.bind_some, Option.map_some, tt_28, tt_71, Int.toNat_natCast]
      repeat (refine ⟨by omega, ?_⟩)
      refine CallK.pure _ _ cr call39 (by simp only [AV.nmIn, bnd, req, ret, onQ, AV.isTup, isTupL, true_and, and_self, Bool.false_eq_true, List.append_nil, vw.vwL, vw, AV.free, Bool.or_self]; all_goals (and_intros <;> first | exact AV.subL_refl _ | omega | (simp [AV.sub]; done) | rfl | (simp [AV.subL_refl]; done) | (simp; exact AV.subL_refl _))) ?_
      simp only [exOps_nil, exOps_cons, exOp_eq, exCall_eq, nx_eq, cur_eq, curV_eq, evL, evP, stepQ, ev, lk, putT, erA, inB, opt, bnd, req, ret, onQ, ap, up, er, AV.isTup, AV.isAgg, intsOf, Kd.agg, comps, szL, csize, takeI, takeC, dropC, stC, stS, bltQ, bltV, appQ, appV, srcQ, Row.len, Row.sz, Row.take, Row.drop, Ent.row, Row.lst, bldA, bslQ, zeroCs, cellsRow, thn_normal, inb_normal, and_true, true_and, and_self, and_false, Nat.reduceEqDiff, Nat.reduceLT, Nat.reduceLeDiff, Nat.reduceAdd, Nat.reduceSub, Nat.reduceMul, Nat.sub_self, Nat.le_refl, Nat.add_zero, Nat.zero_add, if_true, if_false, Bool.false_eq_true, reduceCtorEq, ne_eq, not_false_eq_true, Option.bind_some, Option.map_some, List.append_nil, List.nil_append, List.cons_append, tt_26, tt_59, lit1, List.set_cons_zero, List.length_cons, List.length_nil, ht1]
      refine Or.inl ?_
      refine hK _ ?_
      refine W.region tt_ok ?_
      simp only [exOps_nil, exOps_cons, exOp_eq, nx_eq, cur_eq, stepQ, ev, ofV, lk, putT, erA, inB, opt, bnd, req, ret, onQ, ap, binG, binF, intF, thn_normal, true_and, and_self, Nat.reduceEqDiff, Nat.reduceLT, Nat.reduceAdd, if_true, if_false, reduceCtorEq, wrap_up k (by omega)]
      refine hK3 _ (k + 1) 688 200 (by omega) (by omega) ⟨⟨by simp [Nm, lk], by simp [Nm, lk]⟩, by simp, by simp⟩ ?_
      rw [hT1, hs]
      simp [hk0, hR, St.swap, tmMap, enMap, swp, AV.map, Ent.map, Row.map, wk, leL, lk, nmT, nmE, nmH, AV.nmIn, Ent.nmIn, Row.nmIn]
    · simp only [if_neg hk0]
      refine W.seqK fun K0 hK0 => ?_
      refine W.seqK fun K hK => W.regionK tt_ok ?_
      simp only [decide_true, exOps_nil, exOps_cons, exOp_eq, nx_eq, cur_eq, stepQ, ev, lk, putT, erA, inB, opt, bnd, req, ret, onQ, ap, binG, binF, intF, true_and, and_self, Nat.reduceEqDiff, Nat.reduceLT, Nat.reduceAdd, if_true, if_false, reduceCtorEq, c1]
      refine hK _ ?_
      clear hK K
      refine W.cond (b := true) (by simp only [ev, lk, Nat.reduceEqDiff, if_true, if_false, reduceCtorEq]) (fun _ => W.skip ?_) (fun h => absurd h (by simp))
      rw [thn_normal]
      refine hK0 _ ?_
      clear hK0 K0
      refine W.seqK fun K hK => W.blockK ?_
      refine W.region tt_ok ?_
      simp only [exOps_cons, exOp_eq, exCall_eq, nx_eq, cur_eq, evL, stepQ, ev, lk, putT, erA, inB, opt, bnd, req, ret, onQ, ap, Kd.elem, ixA, asI, ldP, ldE, Kd.agg, and_true, true_and, Nat.reduceEqDiff, Nat.reduceLT, Nat.reduceAdd, Int.toNat_natCast, Nat.zero_add, if_true, if_false, Bool.false_eq_true, reduceCtorEq, Option.bind_some, Option.map_some, tt_28, tt_71, Int.toNat_natCast]
      repeat (refine ⟨by omega, ?_⟩)
      refine CallK.pure _ _ cr call39 (by simp only [AV.nmIn, bnd, req, ret, onQ, AV.isTup, isTupL, true_and, and_self, Bool.false_eq_true, List.append_nil, vw.vwL, vw, AV.free, Bool.or_self]; all_goals (and_intros <;> first | exact AV.subL_refl _ | omega | (simp [AV.sub]; done) | rfl | (simp [AV.subL_refl]; done) | (simp; exact AV.subL_refl _))) ?_
      simp only [exOps_nil, exOps_cons, exOp_eq, exCall_eq, nx_eq, cur_eq, evL, evP, stepQ, ev, lk, putT, erA, inB, opt, bnd, req, ret, onQ, ap, up, er, AV.isTup, AV.isAgg, intsOf, Kd.agg, comps, szL, csize, takeI, takeC, dropC, stC, stS, bltQ, bltV, appR, appQ, appV, srcQ, Row.len, Row.sz, Row.take, Row.drop, Row.app, Ent.row, bldA, bslQ, zeroCs, cellsRow, thn_normal, inb_normal, and_true, true_and, and_self, and_false, or_false, Nat.reduceEqDiff, Nat.reduceLT, Nat.reduceLeDiff, Nat.reduceAdd, Nat.reduceSub, Nat.reduceMul, Nat.sub_self, Nat.le_refl, Nat.add_zero, Nat.zero_add, if_true, if_false, Bool.false_eq_true, reduceCtorEq, Option.bind_some, Option.map_some, List.append_nil, List.nil_append, List.cons_append, tt_26, tt_59, lit1, List.set_cons_zero, List.length_cons, List.length_nil, ht1, htR]
      refine ⟨by omega, ?_⟩
      refine hK _ ?_
      refine W.region tt_ok ?_
      simp only [exOps_nil, exOps_cons, exOp_eq, nx_eq, cur_eq, stepQ, ev, ofV, lk, putT, erA, inB, opt, bnd, req, ret, onQ, ap, binG, binF, intF, thn_normal, true_and, and_self, Nat.reduceEqDiff, Nat.reduceLT, Nat.reduceAdd, if_true, if_false, reduceCtorEq, wrap_up k (by omega)]
      refine hK3 _ (k + 1) 688 200 (by omega) (by omega) ⟨⟨by simp [Nm, lk], by simp [Nm, lk]⟩, by simp, by simp⟩ ?_
      rw [hT1, hs]
      simp [St.swap, tmMap, enMap, swp, AV.map, Ent.map, Row.map, wk, leL, lk, nmT, nmE, nmH, AV.nmIn, Ent.nmIn, Row.nmIn]
  have hk' : k = N := by omega
  have c1 : ¬ (k : Int) < (N : Int) := by omega
  rw [hk'] at c1 hl ⊢
  simp only [if_neg hN0]
  refine W.seqK fun K0 hK0 => ?_
  refine W.seqK fun K hK => W.regionK tt_ok ?_
  simp only [decide_false, exOps_nil, exOps_cons, exOp_eq, nx_eq, cur_eq, stepQ, ev, lk, putT, erA, inB, opt, bnd, req, ret, onQ, ap, binG, binF, intF, true_and, and_self, Nat.reduceEqDiff, Nat.reduceLT, Nat.reduceAdd, if_true, if_false, reduceCtorEq, c1]
  refine hK _ ?_
  clear hK K
  refine W.cond (b := false) (by simp only [ev, lk, Nat.reduceEqDiff, if_true, if_false, reduceCtorEq]) (fun h => absurd h (by simp)) (fun _ => W.exit ?_)
  simp only [thn_normal, thn_exit, inb_exit, if_true]
  clear hK0 K0
  refine hKx _ ?_
  refine W.seqK fun K hK => W.regionK tt_ok ?_
  simp only [exOps_nil, exOps_cons, exOp_eq, nx_eq, cur_eq, stepQ, ev, lk, putT, erA, inB, opt, ret, onQ, ap, true_and, Nat.reduceEqDiff, Nat.reduceLT, Nat.reduceAdd, if_true, if_false, reduceCtorEq]
  refine hK _ ?_
  clear hK K
  refine W.ret ?_
  simp only [fin_ret, finB, resQ, resV, leL, AV.nmIn, entsIn, lk, opt, bnd, req, ret, onQ, AV.isTup, and_true, true_and, and_self, Nat.reduceEqDiff, if_true, if_false, reduceCtorEq]
  simp [Nm, lk, Ent.nmIn, Row.nmIn]
theorem roots_own (Y : Nat) (N K pw : Nat) (hp1 : 1 ≤ pw) (hp3 : pw ≤ 3) (hK : K ≤ 400) (h1 : ∀ k, k < K → (prK k).length < N) (h2 : (prK K).length = N) (h0 : K ≠ 0) : FnR Tryd.prog G 29 [.int .i64 (N : Int), .int .i64 (pw : Int)] [] (.sl Y 1 0 N) [(Y, .vec 26 (.ints .u32 (rtL (prK K) pw N)))] := by
  have h := (roots_fn0 N K pw hp1 hp3 hK h1 h2 h0).rename 200 Y
  have e : swp 200 Y 200 = Y := by simp [swp]
  simpa only [AV.map, enMap, Ent.map, Row.map, e] using h
theorem call29 : Callable Tryd.prog 29 := ⟨_, Tryd.func29, by kernel_rfl, by kernel_rfl⟩
end Go.Proofs.YtageadccfdbmjaaDoor
