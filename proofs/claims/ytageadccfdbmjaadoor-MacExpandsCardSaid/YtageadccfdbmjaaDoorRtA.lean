/- The document's filled key. -/
import Derived.Test.YtageadccfdbmjaaDoorRsR
import Derived.Test.YtageadccfdbmjaaDoorShN
-- TT 2 3 4 5 22 24 26 28 59 71
-- SIMP Sx.stP
set_option linter.unusedVariables false
set_option linter.unusedSimpArgs false
namespace Go.Proofs.YtageadccfdbmjaaDoor
open Sx
set_option maxRecDepth 100000
set_option maxHeartbeats 2000000
theorem call17' : Callable Tryd.prog 17 := ⟨_, Tryd.func17, by kernel_rfl, by kernel_rfl⟩
def kzK (key : List Int) (j : Nat) : List Int := kD key ++ List.replicate j 0
theorem kzK_s (key : List Int) (j : Nat) : kzK key (j + 1) = kzK key j ++ [0] := by rw [kzK, kzK, List.replicate_succ', ← List.append_assoc]
theorem kzK_len (key : List Int) (j : Nat) : (kzK key j).length = (kD key).length + j := by rw [kzK, List.length_append, List.length_replicate]
theorem filled_fn0 (key : List Int) (y : Int) (hk : key.length ≤ 90000) (hB : ∀ x ∈ key, 0 ≤ x ∧ x < 256) : FnR Tryd.prog G 34 [.lstI .u8 key, .int .u8 y] [] (.sl 100 1 0 64) [(100, .vec 5 (.ints .u8 (kB y key)))] := by
  have ht1 : ∀ x : Int, List.take 1 (List.drop 0 [x]) = [x] := fun _ => rfl
  have c17 := rsum_fn key (by omega)
  rw [sumR_dig key (by omega) hB] at c17
  have hdl := dig_len key
  have hkd := kD_len key
  refine FnR.of_walk (m := 39) (n0 := 0) tt_ok Tryd.func34 rfl rfl (by simp) (by simp [nmH]) ?_
  rw [show Tryd.f34.results.toList = [.tmp 4] from rfl]
  refine W.seqK fun K hK => W.regionK tt_ok ?_
  simp only [exOps_nil, exOps_cons, exOp_eq, nx_eq, cur_eq, stepQ, ev, ofV, parT, putT, erA, inB, opt, ret, onQ, ap, true_and, Nat.reduceEqDiff, Nat.reduceLT, Nat.zero_add, if_false, reduceCtorEq]
  refine hK _ ?_
  clear hK K
  refine W.seqK fun K hK => W.regionK tt_ok ?_
  simp only [exOps_nil, exOps_cons, exOp_eq, exCall_eq, nx_eq, cur_eq, evL, evP, stepQ, ev, lk, putT, erA, inB, opt, bnd, req, ret, onQ, ap, up, er, intsOf, bltQ, bltV, appQ, appV, srcQ, rowOf, Row.len, Row.sz, Row.take, Row.app, bldA, bslQ, zeroCs, cellsRow, and_true, true_and, and_self, or_false, Nat.reduceEqDiff, Nat.reduceLT, Nat.reduceAdd, Nat.reduceMul, Nat.le_refl, Nat.zero_le, Nat.zero_add, if_true, if_false, reduceCtorEq, Option.bind_some, Option.map_some, List.nil_append, tt_5, tt_22, List.length_nil, List.replicate_zero, List.take_zero, List.nil_append]
  refine ⟨by omega, ?_⟩
  refine hK _ ?_
  clear hK K
  refine W.joinS ⟨[(1, .int .u8 y), (5, .sl 100 1 0 (kD key).length)], [(100, .vec 5 (.ints .u8 (kD key)))], 600, 39⟩ (fun K hK => ?_) ?_
  · by_cases h1 : (64 : Int) < key.length
    · have hke : kD key = dig key := if_pos (by omega)
      have hde : dig key = dig key := rfl
      generalize hD : dig key = D at *
      have htD : List.take 32 (List.drop 0 D) = D := by rw [List.drop_zero]; exact List.take_of_length_le (by omega)
      refine W.seqK fun K2 hK2 => W.regionK tt_ok ?_
      simp only [decide_true, exOps_nil, exOps_cons, exOp_eq, exCall_eq, nx_eq, cur_eq, evL, stepQ, ev, ofV, lk, putT, erA, inB, opt, bnd, req, ret, onQ, ap, binG, binF, intF, bltQ, bltV, lenF, true_and, and_self, or_false, Nat.reduceEqDiff, Nat.reduceLT, Nat.reduceAdd, if_true, if_false, reduceCtorEq, List.getElem?_cons_zero, Option.bind_some, Option.map_some, tt_22, h1]
      refine hK2 _ ?_
      clear hK2 K2
      refine W.cond (b := true) (by simp only [ev, lk, Nat.reduceEqDiff, if_true, if_false, reduceCtorEq]) (fun _ => ?_) (fun h => absurd h (by simp))
      refine W.seqK fun K2 hK2 => W.regionK tt_ok ?_
      simp only [exOps_cons, exOp_eq, exCall_eq, nx_eq, cur_eq, evL, stepQ, ev, lk, putT, erA, inB, opt, ret, onQ, ap, true_and, Nat.reduceEqDiff, Nat.reduceLT, Nat.reduceAdd, if_true, if_false, reduceCtorEq, Option.bind_some, Option.map_some]
      refine CallK.pure _ _ c17 call17' (by simp only [AV.nmIn, bnd, req, ret, onQ, AV.isTup, isTupL, true_and, and_self, Bool.false_eq_true, List.append_nil, vw.vwL, vw, AV.free, AV.freeL, Bool.or_self]; all_goals (and_intros <;> first | exact AV.subL_refl _ | omega | (simp [AV.sub]; done) | rfl | (simp [AV.subL_refl]; done) | (simp; exact AV.subL_refl _))) ?_
      simp only [exOps_nil, exOps_cons, exOp_eq, nx_eq, cur_eq, stepQ, ev, lk, putT, erA, inB, opt, bnd, req, ret, onQ, ap, up, er, AV.isAgg, Kd.agg, comps, szL, csize, takeI, takeC, dropC, stE, stC, stS, true_and, and_self, Nat.reduceEqDiff, Nat.reduceLT, Nat.reduceLeDiff, Nat.reduceAdd, Nat.reduceSub, Nat.sub_self, Nat.le_refl, Nat.add_zero, Nat.zero_add, if_true, if_false, reduceCtorEq, Option.bind_some, Option.map_some, List.append_nil, List.nil_append, tt_24, Sx.stP]
      refine hK2 _ ?_
      clear hK2 K2
      refine W.region tt_ok ?_
      simp only [exOps_nil, exOps_cons, exOp_eq, exCall_eq, nx_eq, cur_eq, evL, evP, stepQ, ev, lk, putT, erA, inB, opt, bnd, req, ret, onQ, ap, up, er, intsOf, comps, szL, csize, bltQ, bltV, slF, appR, bd, bds, appQ, appV, srcQ, Row.len, Row.sz, Row.take, Row.drop, Row.app, Ent.row, bldA, bslQ, zeroCs, cellsRow, thn_normal, true_and, and_self, or_false, Nat.reduceEqDiff, Nat.reduceLT, Nat.reduceLeDiff, Nat.reduceAdd, Nat.reduceSub, Nat.reduceMul, Nat.le_refl, Nat.zero_le, Nat.add_zero, Nat.zero_add, if_true, if_false, reduceCtorEq, Option.bind_some, Option.map_some, List.nil_append, tt_5, tt_22, tt_24, List.length_nil, htD, hdl, List.replicate_zero, List.take_zero, List.nil_append]
      repeat (refine ⟨by omega, ?_⟩)
      refine hK _ 224 100 ⟨⟨by simp [Nm, lk], by simp [Nm, lk]⟩, by simp, by simp⟩ ?_
      rw [hke, hdl]
      simp [St.swap, tmMap, enMap, swp, AV.map, AV.mapL, Ent.map, Row.map, wk, leL, lk, nmT, nmE, nmH, AV.nmIn, Ent.nmIn, Row.nmIn]
    · have hke : kD key = key := if_neg (by omega)
      refine W.seqK fun K2 hK2 => W.regionK tt_ok ?_
      simp only [decide_false, exOps_nil, exOps_cons, exOp_eq, exCall_eq, nx_eq, cur_eq, evL, stepQ, ev, ofV, lk, putT, erA, inB, opt, bnd, req, ret, onQ, ap, binG, binF, intF, bltQ, bltV, lenF, true_and, and_self, or_false, Nat.reduceEqDiff, Nat.reduceLT, Nat.reduceAdd, if_true, if_false, reduceCtorEq, List.getElem?_cons_zero, Option.bind_some, Option.map_some, tt_22, h1]
      refine hK2 _ ?_
      clear hK2 K2
      refine W.cond (b := false) (by simp only [ev, lk, Nat.reduceEqDiff, if_true, if_false, reduceCtorEq]) (fun h => absurd h (by simp)) (fun _ => ?_)
      refine W.skip ?_
      simp only [thn_normal]
      refine hK _ 48 100 ⟨⟨by simp [Nm, lk], by simp [Nm, lk]⟩, by simp, by simp⟩ ?_
      rw [hke]
      simp [St.swap, tmMap, enMap, swp, AV.map, Ent.map, Row.map, wk, leL, lk, nmT, nmE, nmH, AV.nmIn, Ent.nmIn, Row.nmIn]
  refine W.seqK fun Kx hKx => ?_
  refine W.blockK ?_
  refine W.loopS (fun j : Nat => j ≤ 64 - (kD key).length) (fun j => ⟨[(1, .int .u8 y), (5, .sl 100 1 0 (kzK key j).length)], [(100, .vec 5 (.ints .u8 (kzK key j)))], 600, 39⟩) (fun j => 64 - j) 0 (by simp) (by simp [kzK, wk, leL, lk, nmT, nmE, nmH, AV.nmIn, Ent.nmIn, Row.nmIn]) ?_
  intro j hj K3 hK3
  have hl := kzK_len key j
  by_cases hlt : j < 64 - (kD key).length
  · have hs := kzK_s key j
    have c1 : ((kzK key j).length : Int) < 64 := by omega
    generalize hT1 : kzK key (j + 1) = L1 at *
    generalize hT0 : kzK key j = L at *
    refine W.seqK fun K0 hK0 => ?_
    refine W.seqK fun K hK => W.regionK tt_ok ?_
    simp only [decide_true, exOps_nil, exOps_cons, exOp_eq, exCall_eq, nx_eq, cur_eq, evL, stepQ, ev, ofV, lk, putT, erA, inB, opt, bnd, req, ret, onQ, ap, binG, binF, intF, bltQ, bltV, lenF, true_and, and_self, or_false, Nat.reduceEqDiff, Nat.reduceLT, Nat.reduceAdd, if_true, if_false, List.getElem?_cons_zero, Option.bind_some, Option.map_some, tt_22, c1]
    refine hK _ ?_
    clear hK K
    refine W.cond (b := true) (by simp only [ev, lk, Nat.reduceEqDiff, if_true, if_false]) (fun _ => ?_) (fun h => absurd h (by simp))
    refine W.skip ?_
    simp only [thn_normal]
    refine hK0 _ ?_
    refine W.blockK ?_
    refine W.region tt_ok ?_
    simp only [exOps_nil, exOps_cons, exOp_eq, exCall_eq, nx_eq, cur_eq, evL, evP, stepQ, ev, ofV, lk, putT, erA, inB, opt, bnd, req, ret, onQ, ap, up, er, AV.isTup, AV.isAgg, intsOf, Kd.agg, comps, szL, csize, takeI, takeC, dropC, stC, stS, bltQ, bltV, appR, appQ, appV, srcQ, Row.len, Row.sz, Row.take, Row.drop, Row.app, Ent.row, bldA, bslQ, zeroCs, cellsRow, thn_normal, inb_normal, and_true, true_and, and_self, and_false, or_false, Nat.reduceEqDiff, Nat.reduceLT, Nat.reduceLeDiff, Nat.reduceAdd, Nat.reduceSub, Nat.reduceMul, Nat.sub_self, Nat.le_refl, Nat.add_zero, Nat.zero_add, if_true, if_false, Bool.false_eq_true, reduceCtorEq, Option.bind_some, Option.map_some, List.append_nil, List.nil_append, List.cons_append, tt_5, tt_22, lit1, List.set_cons_zero, List.length_cons, List.length_nil, ht1, List.take_length]
    refine ⟨by omega, ?_⟩
    refine hK3 _ (j + 1) 680 100 (by omega) (by omega) ⟨⟨by simp [Nm, lk], by simp [Nm, lk]⟩, by simp, by simp⟩ ?_
    rw [hT1, hs]
    simp [St.swap, tmMap, enMap, swp, AV.map, Ent.map, Row.map, wk, leL, lk, nmT, nmE, nmH, AV.nmIn, Ent.nmIn, Row.nmIn]
  have hj' : j = 64 - (kD key).length := by omega
  have hZ : kzK key j = kZ (kD key) := by rw [kzK, kZ, hj']
  have hKB : kB y key = kX y (kZ (kD key)) 64 := rfl
  have hl2 : (kZ (kD key)).length = 64 := kZ_len hkd
  rw [hZ]
  have c1 : ¬ (((kZ (kD key)).length : Nat) : Int) < 64 := by omega
  clear hK3 hlt hl hZ
  generalize kZ (kD key) = Z at *
  refine W.seqK fun K0 hK0 => ?_
  refine W.seqK fun K hK => W.regionK tt_ok ?_
  simp only [decide_false, exOps_nil, exOps_cons, exOp_eq, exCall_eq, nx_eq, cur_eq, evL, stepQ, ev, ofV, lk, putT, erA, inB, opt, bnd, req, ret, onQ, ap, binG, binF, intF, bltQ, bltV, lenF, true_and, and_self, or_false, Nat.reduceEqDiff, Nat.reduceLT, Nat.reduceAdd, if_true, if_false, List.getElem?_cons_zero, Option.bind_some, Option.map_some, tt_22, c1]
  refine hK _ ?_
  clear hK K
  refine W.cond (b := false) (by simp only [ev, lk, Nat.reduceEqDiff, if_true, if_false]) (fun h => absurd h (by simp)) (fun _ => ?_)
  refine W.exit ?_
  simp only [thn_normal, thn_exit, inb_exit, if_true]
  refine hKx _ ?_
  refine W.seqK fun Kx hKx => ?_
  refine W.seqK fun K hK => W.regionK tt_ok ?_
  simp only [exOps_nil, exOps_cons, exOp_eq, nx_eq, cur_eq, stepQ, ev, ofV, putT, erA, inB, opt, ret, onQ, ap, true_and, Nat.reduceEqDiff, Nat.reduceLT, Nat.reduceAdd, if_false]
  refine hK _ ?_
  clear hK K
  refine W.blockK ?_
  rw [hl2]
  refine W.loopK (fun i : Nat => i ≤ 64) (fun i => ⟨[(1, .int .u8 y), (5, .sl 100 1 0 64), (7, .int .i64 (i : Int))], [(100, .vec 5 (.ints .u8 (kX y Z i)))], 800, 39⟩) (fun i => 64 - i) 0 (by simp) (by simp [kX, wk, leL, lk, nmT, nmE, nmH, AV.nmIn, Ent.nmIn, Row.nmIn]) ?_
  intro i hi K3 hK3
  have hxl := kX_len y Z i
  rw [hl2] at hxl
  by_cases hlt : i < 64
  · have c2 : (i : Int) < 64 := by omega
    have hn : kX y Z (i + 1) = (kX y Z i).set i (bits .xor .u8 ((kX y Z i).getD i 0) y) := rfl
    generalize hT1 : kX y Z (i + 1) = L1 at *
    generalize hT0 : kX y Z i = L at *
    refine W.seqK fun K0 hK0 => ?_
    refine W.seqK fun K hK => W.regionK tt_ok ?_
    simp only [decide_true, exOps_nil, exOps_cons, exOp_eq, nx_eq, cur_eq, stepQ, ev, ofV, lk, putT, erA, inB, opt, bnd, req, ret, onQ, ap, binG, binF, intF, true_and, and_self, Nat.reduceEqDiff, Nat.reduceLT, Nat.reduceAdd, if_true, if_false, c2]
    refine hK _ ?_
    clear hK K
    refine W.cond (b := true) (by simp only [ev, lk, Nat.reduceEqDiff, if_true, if_false]) (fun _ => W.skip ?_) (fun h => absurd h (by simp))
    rw [thn_normal]
    refine hK0 _ ?_
    clear hK0 K0
    refine W.seqK fun K hK => W.blockK ?_
    refine W.region tt_ok ?_
    simp only [exOps_nil, exOps_cons, exOp_eq, nx_eq, cur_eq, stepQ, ev, lk, putT, erA, inB, opt, bnd, req, ret, onQ, ap, up, er, binG, binF, intF, Kd.elem, ixA, asI, ldP, ldE, Kd.agg, stE, thn_normal, inb_normal, and_true, true_and, and_self, Nat.reduceEqDiff, Nat.reduceLT, Nat.reduceLeDiff, Nat.reduceAdd, Int.toNat_natCast, Nat.zero_add, if_true, if_false, Bool.false_eq_true, tt_5, tt_22, Sx.stP, hxl, Int.toNat_natCast]
    repeat (refine ⟨by omega, ?_⟩)
    refine hK _ ?_
    refine W.region tt_ok ?_
    simp only [exOps_nil, exOps_cons, exOp_eq, nx_eq, cur_eq, stepQ, ev, ofV, lk, putT, erA, inB, opt, bnd, req, ret, onQ, ap, binG, binF, intF, thn_normal, true_and, and_self, Nat.reduceEqDiff, Nat.reduceLT, Nat.reduceAdd, if_true, if_false, wrap_up i (by omega)]
    refine hK3 _ (i + 1) (by omega) (by omega) ?_
    rw [hT1, hn]
    simp [wk, leL, lk, nmT, nmE, nmH, AV.nmIn, Ent.nmIn, Row.nmIn]
  have hi' : i = 64 := by omega
  subst hi'
  have c2 : ¬ ((64 : Nat) : Int) < 64 := by omega
  refine W.seqK fun K0 hK0 => ?_
  refine W.seqK fun K hK => W.regionK tt_ok ?_
  simp only [decide_false, exOps_nil, exOps_cons, exOp_eq, nx_eq, cur_eq, stepQ, ev, ofV, lk, putT, erA, inB, opt, bnd, req, ret, onQ, ap, binG, binF, intF, true_and, and_self, Nat.reduceEqDiff, Nat.reduceLT, Nat.reduceAdd, if_true, if_false, c2]
  refine hK _ ?_
  clear hK K
  refine W.cond (b := false) (by simp only [ev, lk, Nat.reduceEqDiff, if_true, if_false]) (fun h => absurd h (by simp)) (fun _ => W.exit ?_)
  simp only [thn_normal, thn_exit, inb_exit, if_true]
  clear hK0 K0
  refine hKx _ ?_
  refine W.seqK fun K hK => W.regionK tt_ok ?_
  simp only [exOps_nil, exOps_cons, exOp_eq, nx_eq, cur_eq, stepQ, ev, lk, putT, erA, inB, opt, ret, onQ, ap, true_and, Nat.reduceEqDiff, Nat.reduceLT, Nat.reduceAdd, if_true, if_false]
  refine hK _ ?_
  clear hK K
  refine W.ret ?_
  simp only [fin_ret, finB, resQ, resV, leL, AV.nmIn, entsIn, lk, opt, bnd, req, ret, onQ, AV.isTup, and_true, true_and, and_self, Nat.reduceEqDiff, if_true, if_false]
  simp [hKB, Nm, lk, Ent.nmIn, Row.nmIn]
theorem filled_own (Y : Nat) (key : List Int) (y : Int) (hk : key.length ≤ 90000) (hB : ∀ x ∈ key, 0 ≤ x ∧ x < 256) : FnR Tryd.prog G 34 [.lstI .u8 key, .int .u8 y] [] (.sl Y 1 0 64) [(Y, .vec 5 (.ints .u8 (kB y key)))] := by
  have h := (filled_fn0 key y hk hB).rename 100 Y
  have e : swp 100 Y 100 = Y := by simp [swp]
  simpa only [AV.map, enMap, Ent.map, Row.map, e] using h
theorem call34' : Callable Tryd.prog 34 := ⟨_, Tryd.func34, by kernel_rfl, by kernel_rfl⟩
end Go.Proofs.YtageadccfdbmjaaDoor
