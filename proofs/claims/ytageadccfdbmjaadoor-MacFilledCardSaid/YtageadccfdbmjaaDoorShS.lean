/- The statement MacFilled: the walk. -/
import Derived.Test.YtageadccfdbmjaaDoorShR
-- TT 3 4 5 9 22 24 26 27 28 30 34 42 47 79
-- TOUCH 32 1
-- KIND 11 8 8 10
set_option linter.unusedVariables false
set_option linter.unusedSimpArgs false
namespace Go.Proofs.YtageadccfdbmjaaDoor
open Sx
set_option maxRecDepth 100000
set_option maxHeartbeats 4000000
theorem hmac_long {key : List Int} (b : List Int) (h : 64 < key.length) : hmac (dig key) b = hmac key b := by
  have h1 : kD key = dig key := if_pos h
  have h2 : kD (dig key) = dig key := if_neg (by rw [dig_len]; omega)
  have h3 : ∀ y, kB y (dig key) = kB y key := fun y => by rw [kB, kB, h1, h2]
  rw [hmac, hmac, h3, h3]
theorem hmac_fill {key : List Int} (b : List Int) (z : Nat) (h : key.length + z ≤ 64) : hmac (key ++ List.replicate z 0) b = hmac key b := by
  have h1 : kD key = key := if_neg (by omega)
  have h2 : kD (key ++ List.replicate z 0) = key ++ List.replicate z 0 := if_neg (by simp; omega)
  have h4 : kZ (key ++ List.replicate z 0) = kZ key := by
    rw [kZ, kZ, List.append_assoc, List.length_append, List.length_replicate, List.replicate_append_replicate]
    congr 2; omega
  have h3 : ∀ y, kB y (key ++ List.replicate z 0) = kB y key := fun y => by rw [kB, kB, h1, h2, h4]
  rw [hmac, hmac, h3, h3]
theorem filled_fn (key b : List Int) (y : Int) (hy : 0 ≤ y ∧ y < 256) : FnR Tryd.prog G 11 [.lstI .u8 key, .lstI .u8 b, .int .u8 y] [] (.bool true) [] := by
  refine FnR.of_walk (m := 47) (n0 := 0) tt_ok Tryd.func11 rfl rfl (by simp) (by simp [nmH]) ?_
  rw [show Tryd.f11.results.toList = [.tmp 6] from rfl]
  refine W.seqK fun K hK => W.regionK tt_ok ?_
  simp only [exOps_nil, exOps_cons, exOp_eq, nx_eq, cur_eq, stepQ, ev, ofV, parT, putT, erA, inB, opt, ret, onQ, ap, true_and, Nat.reduceEqDiff, Nat.reduceLT, Nat.reduceAdd, Nat.zero_add, if_false, reduceCtorEq]
  refine hK _ ?_
  clear hK K
  refine W.seqK fun Kz hKz => ?_
  refine W.seqK fun K hK => W.regionK tt_ok ?_
  simp only [exOps_cons, exOp_eq, exCall_eq, evL, ev, inB, true_and, Nat.reduceLT]
  refine CallK.pure _ _ alive4_fn call20 (by simp only [ret, onQ, isTupL, true_and, Bool.false_eq_true, List.append_nil, vw.vwL, AV.free]; all_goals (and_intros <;> first | exact AV.subL_refl _ | omega | (simp []; done) | rfl | (simp [AV.subL_refl]; done) | (simp; exact AV.subL_refl _))) ?_
  simp only [Bool.not_true, exOps_nil, exOps_cons, exOp_eq, nx_eq, cur_eq, stepQ, ev, lk, putT, erA, inB, opt, bnd, req, ret, onQ, ap, unF, true_and, and_self, Nat.reduceEqDiff, Nat.reduceLT, Nat.reduceAdd, if_true, if_false, reduceCtorEq]
  refine hK _ ?_
  clear hK K
  refine W.cond (b := false) (by simp only [ev, lk, Nat.reduceEqDiff, if_true, if_false, reduceCtorEq]) (fun h => absurd h (by simp)) (fun _ => W.skip ?_)
  simp only [thn_normal]
  refine hKz _ ?_
  refine W.seqK fun Ky hKy => ?_
  by_cases h1 : (300 : Int) < key.length
  · refine W.seqK fun K hK => W.regionK tt_ok ?_
    simp only [↓gTF, ↓nTF, decide_true, exOps_nil, exOps_cons, exOp_eq, exCall_eq, nx_eq, cur_eq, evL, stepQ, ev, ofV, lk, putT, erA, inB, opt, bnd, req, ret, onQ, ap, binG, binF, intF, pickF, bltQ, bltV, lenF, true_and, and_self, or_false, Nat.reduceEqDiff, Nat.reduceLT, Nat.reduceAdd, if_true, if_false, reduceCtorEq, List.getElem?_cons_zero, List.getElem?_cons_succ, Option.bind_some, Option.map_some, tt_22, h1]
    refine hK _ ?_
    clear hK K
    refine W.cond (b := true) (by simp only [ev, lk, Nat.reduceEqDiff, if_true, if_false, reduceCtorEq]) (fun _ => ?_) (fun h => absurd h (by simp))
    refine W.seqK fun K hK => W.regionK tt_ok ?_
    simp only [exOps_nil, exOps_cons, exOp_eq, nx_eq, cur_eq, stepQ, ev, ofV, putT, erA, inB, opt, ret, onQ, ap, true_and, Nat.reduceEqDiff, Nat.reduceLT, Nat.reduceAdd, if_true, if_false, reduceCtorEq]
    refine hK _ ?_
    clear hK K
    refine W.ret ?_
    simp only [fin_ret, finB, resQ, resV, leL, AV.nmIn, entsIn, lk, opt, bnd, req, ret, onQ, AV.isTup, thn_ret, and_self, Nat.reduceEqDiff, if_true, if_false, reduceCtorEq]
  by_cases h2 : (300 : Int) < b.length
  · refine W.seqK fun K hK => W.regionK tt_ok ?_
    simp only [↓gFF, ↓nFF, decide_true, decide_false, exOps_nil, exOps_cons, exOp_eq, exCall_eq, nx_eq, cur_eq, evL, stepQ, ev, ofV, lk, putT, erA, inB, opt, bnd, req, ret, onQ, ap, binG, binF, intF, pickF, bltQ, bltV, lenF, and_true, true_and, and_self, or_false, Nat.reduceEqDiff, Nat.reduceLT, Nat.reduceAdd, if_true, if_false, reduceCtorEq, List.getElem?_cons_zero, List.getElem?_cons_succ, Option.bind_some, Option.map_some, tt_22, h1, h2]
    refine hK _ ?_
    clear hK K
    refine W.cond (b := true) (by simp only [ev, lk, Nat.reduceEqDiff, if_true, if_false, reduceCtorEq]) (fun _ => ?_) (fun h => absurd h (by simp))
    refine W.seqK fun K hK => W.regionK tt_ok ?_
    simp only [exOps_nil, exOps_cons, exOp_eq, nx_eq, cur_eq, stepQ, ev, ofV, putT, erA, inB, opt, ret, onQ, ap, true_and, Nat.reduceEqDiff, Nat.reduceLT, Nat.reduceAdd, if_true, if_false, reduceCtorEq]
    refine hK _ ?_
    clear hK K
    refine W.ret ?_
    simp only [fin_ret, finB, resQ, resV, leL, AV.nmIn, entsIn, lk, opt, bnd, req, ret, onQ, AV.isTup, thn_ret, and_self, Nat.reduceEqDiff, if_true, if_false, reduceCtorEq]
  refine W.seqK fun K hK => W.regionK tt_ok ?_
  simp only [↓gFF, ↓nFF, decide_false, exOps_nil, exOps_cons, exOp_eq, exCall_eq, nx_eq, cur_eq, evL, stepQ, ev, ofV, lk, putT, erA, inB, opt, bnd, req, ret, onQ, ap, binG, binF, intF, pickF, bltQ, bltV, lenF, and_true, true_and, and_self, or_false, Nat.reduceEqDiff, Nat.reduceLT, Nat.reduceAdd, if_true, if_false, reduceCtorEq, List.getElem?_cons_zero, List.getElem?_cons_succ, Option.bind_some, Option.map_some, tt_22, h1, h2]
  refine hK _ ?_
  clear hK K
  refine W.cond (b := false) (by simp only [ev, lk, Nat.reduceEqDiff, if_true, if_false, reduceCtorEq]) (fun h => absurd h (by simp)) (fun _ => W.skip ?_)
  simp only [thn_normal]
  refine hKy _ ?_
  refine W.seqK fun Kx hKx => ?_
  by_cases h3 : (64 : Int) < key.length
  · have c1 := macSum_fn key b (by omega) (by omega)
    have c2 := macSum_fn (dig key) b (by rw [dig_len]; omega) (by omega)
    rw [hmac_long b (by omega)] at c2
    have c3 := sum_fn key (by omega)
    have hl := dig_len key
    have hl2 := hmac_len key b
    generalize dig key = H at *
    have hHd : List.take 32 (List.drop 0 H) = H := by rw [List.drop_zero]; exact List.take_of_length_le (by omega)
    rw [← hHd] at c2
    generalize hmac key b = D at *
    refine W.seqK fun K hK => W.regionK tt_ok ?_
    simp only [decide_true, exOps_nil, exOps_cons, exOp_eq, exCall_eq, nx_eq, cur_eq, evL, stepQ, ev, ofV, lk, putT, erA, inB, opt, bnd, req, ret, onQ, ap, binG, binF, intF, bltQ, bltV, lenF, true_and, and_self, or_false, Nat.reduceEqDiff, Nat.reduceLT, Nat.reduceAdd, if_true, if_false, reduceCtorEq, List.getElem?_cons_zero, Option.bind_some, Option.map_some, tt_22, h3]
    refine hK _ ?_
    clear hK K
    refine W.cond (b := true) (by simp only [ev, lk, Nat.reduceEqDiff, if_true, if_false, reduceCtorEq]) (fun _ => ?_) (fun h => absurd h (by simp))
    refine W.seqK fun K hK => W.regionK tt_ok ?_
    simp only [exOps_cons, exOp_eq, exCall_eq, nx_eq, cur_eq, evL, stepQ, ev, lk, putT, erA, inB, opt, ret, onQ, ap, true_and, Nat.reduceEqDiff, Nat.reduceLT, Nat.reduceAdd, if_true, if_false, reduceCtorEq, Option.bind_some, Option.map_some]
    refine CallK.pure _ _ c3 call16 (by simp only [AV.nmIn, bnd, req, ret, onQ, AV.isTup, isTupL, true_and, and_self, Bool.false_eq_true, List.append_nil, vw.vwL, vw, AV.free, AV.freeL, Bool.or_self]; all_goals (and_intros <;> first | exact AV.subL_refl _ | omega | (simp [AV.sub]; done) | rfl | (simp [AV.subL_refl]; done) | (simp; exact AV.subL_refl _))) ?_
    simp only [exOps_nil, exOps_cons, exOp_eq, nx_eq, cur_eq, stepQ, ev, lk, putT, erA, inB, opt, bnd, req, ret, onQ, ap, up, er, AV.isAgg, Kd.agg, comps, szL, csize, takeI, takeC, dropC, stP, stE, stC, stS, true_and, and_self, Nat.reduceEqDiff, Nat.reduceLT, Nat.reduceLeDiff, Nat.reduceAdd, Nat.reduceSub, Nat.sub_self, Nat.le_refl, Nat.add_zero, Nat.zero_add, if_true, if_false, reduceCtorEq, Option.bind_some, Option.map_some, List.append_nil, List.nil_append, tt_24]
    repeat (refine ⟨by omega, ?_⟩)
    refine hK _ ?_
    clear hK K
    refine W.seqK fun K hK => W.drawK [⟨0, false, []⟩, ⟨0, false, []⟩, ⟨0, false, [0, 1]⟩, ⟨0, false, []⟩, ⟨0, false, []⟩, ⟨0, false, [0, 1, 2, 3, 4]⟩, ⟨0, false, [0, 1, 2, 3, 4, 5]⟩, ⟨0, false, [0, 1, 2, 3, 4, 5, 6]⟩] mix tt_ok (by kernel_rfl) ?_
    simp only [exOp_eq, exCall_eq, exD_cons, nxD_eq, cur_eq, flI, ownB, evL, stepQ, ev, lk, putT, erA, inB, opt, ret, onQ, ap, true_and, Nat.reduceEqDiff, Nat.reduceLT, Nat.reduceAdd, if_true, if_false, reduceCtorEq, Option.bind_some, Option.map_some]
    refine CallK.pure _ _ c1 call22 (by simp only [AV.nmIn, bnd, req, ret, onQ, AV.isTup, isTupL, true_and, and_self, Bool.false_eq_true, List.append_nil, vw.vwL, vw, AV.free, AV.freeL, Bool.or_self]; all_goals (and_intros <;> first | exact AV.subL_refl _ | omega | (simp [AV.sub]; done) | rfl | (simp [AV.subL_refl]; done) | (simp; exact AV.subL_refl _))) ?_
    simp only [exOp_eq, exCall_eq, exD_cons, nxD_eq, cur_eq, flI, ownB, evL, stepQ, ev, lk, putT, erA, inB, opt, bnd, req, ret, onQ, ap, comps, szL, csize, slF, bd, bds, true_and, and_self, Nat.reduceEqDiff, Nat.reduceLT, Nat.reduceLeDiff, Nat.reduceAdd, Nat.reduceSub, Nat.reduceMul, Nat.add_zero, if_true, if_false, reduceCtorEq, Option.bind_some, Option.map_some, tt_5, tt_24]
    refine CallK.pure _ _ c2 call22 (by simp only [Bool.or_false, AV.nmIn, lk, opt, bnd, req, ret, onQ, AV.isTup, isTupL, Ent.row, and_true, true_and, and_self, Nat.zero_add, if_true, forall_const, List.append_nil, vw.vwL, vw, viewR, AV.free, AV.freeL, Ent.row, Bool.or_self]; all_goals (and_intros <;> first | exact AV.subL_refl _ | omega | (simp [AV.sub]; done) | rfl | (simp [AV.subL_refl]; done) | (simp; exact AV.subL_refl _))) ?_
    simp only [exOp_eq, exD_nil, exD_cons, nxD_eq, cur_eq, flI, ownB, stepQ, ev, lk, putT, erA, inB, opt, bnd, req, ret, onQ, ap, binG, eqOp, intsOf, and_true, true_and, and_self, Nat.reduceEqDiff, Nat.reduceLT, Nat.reduceAdd, if_true, if_false, reduceCtorEq, Option.map_some, List.append_nil, tt_5, tt_24, beq_self_eq_true]
    repeat (refine ⟨by omega, ?_⟩)
    refine hK _ ?_
    clear hK K
    refine W.ret ?_
    simp only [fin_ret, finB, resQ, resV, leL, AV.nmIn, entsIn, lk, opt, bnd, req, ret, onQ, AV.isTup, thn_ret, and_self, Nat.reduceEqDiff, if_true, if_false, reduceCtorEq]
  · refine W.seqK fun K hK => W.regionK tt_ok ?_
    simp only [decide_false, exOps_nil, exOps_cons, exOp_eq, exCall_eq, nx_eq, cur_eq, evL, stepQ, ev, ofV, lk, putT, erA, inB, opt, bnd, req, ret, onQ, ap, binG, binF, intF, bltQ, bltV, lenF, true_and, and_self, or_false, Nat.reduceEqDiff, Nat.reduceLT, Nat.reduceAdd, if_true, if_false, reduceCtorEq, List.getElem?_cons_zero, Option.bind_some, Option.map_some, tt_22, h3]
    refine hK _ ?_
    clear hK K
    refine W.cond (b := false) (by simp only [ev, lk, Nat.reduceEqDiff, if_true, if_false, reduceCtorEq]) (fun h => absurd h (by simp)) (fun _ => W.skip ?_)
    simp only [thn_normal]
    refine hKx _ ?_
    obtain ⟨m, hm⟩ : ∃ m : Nat, (m : Int) = 65 - key.length := ⟨(65 - (key.length : Int)).toNat, by omega⟩
    have w0 : IntKind.i64.wrap y = y := by rw [IntKind.wrap_i64]; omega
    have w1 : IntKind.i64.wrap (65 - (key.length : Int)) = m := by rw [IntKind.wrap_i64]; omega
    have hmp : (0 : Int) < m := by omega
    have hmod := Int.emod_lt_of_pos y hmp
    have hmod0 := Int.emod_nonneg y (show (m : Int) ≠ 0 by omega)
    obtain ⟨z, hz⟩ : ∃ z : Nat, (z : Int) = y % m := ⟨(y % m).toNat, by omega⟩
    have w2 : y.tmod (m : Int) = z := by rw [Int.tmod_eq_emod_of_nonneg hy.1, hz]
    have hm0 : ¬ (m : Int) = 0 := by omega
    have hfill := hmac_fill (key := key) b z (by omega)
    have c1 := macSum_fn key b (by omega) (by omega)
    have c2 := macSum_fn (key ++ List.replicate z 0) b (by simp; omega) (by omega)
    rw [hfill] at c2
    clear hfill
    have hDl := hmac_len key b
    generalize hmac key b = D at *
    by_cases hk0 : key.length = 0
    · have hke : key = [] := List.length_eq_zero_iff.1 hk0
      rw [hk0] at w1
      rw [hke, List.nil_append] at c2
      by_cases hz0 : (z : Int) = 0
      · have hzz : z = 0 := by omega
        refine W.seqK fun K hK => W.drawK [⟨0, false, []⟩, ⟨1, false, [0]⟩, ⟨0, false, []⟩, ⟨0, true, [2]⟩, ⟨0, false, []⟩, ⟨0, true, [4]⟩, ⟨0, false, [4, 5]⟩, ⟨0, false, [2, 3, 4, 5, 6]⟩, ⟨10, false, [0, 1, 2, 3, 4, 5, 6, 7]⟩, ⟨0, false, [0, 1, 2, 3, 4, 5, 6, 7, 8]⟩] mix tt_ok (by kernel_rfl) ?_
        simp only [exOp_eq, exCall_eq, exD_nil, exD_cons, nxD_eq, cur_eq, curV_eq, flI, flE, ownB, ownL, ownS, evL, stepQ, ev, ofV, lk, putT, erA, inB, opt, bnd, req, ret, onQ, ap, binG, binF, intF, bltQ, bltV, lenF, cvQ, appQ, appZ, appV, srcQ, rowOf, Row.len, Row.sz, Row.lst, true_and, and_self, and_false, or_false, Nat.reduceEqDiff, Nat.reduceLT, Nat.reduceAdd, Nat.reduceMul, Nat.zero_le, reduceCtorEq, ne_eq, not_false_eq_true, List.getElem?_cons_zero, Option.bind_some, Option.map_some, tt_3, tt_5, tt_22, hk0, w0, w1, w2, hm0, hz0, ↓reduceIte]
        repeat (refine ⟨by omega, ?_⟩)
        refine hK _ ?_
        clear hK K
        rw [hzz] at c2
        refine W.seqK fun K hK => W.regionK tt_ok ?_
        simp only [exOps_cons, exOp_eq, exCall_eq, nx_eq, cur_eq, evL, stepQ, ev, lk, putT, erA, inB, opt, ret, onQ, ap, true_and, Nat.reduceEqDiff, Nat.reduceLT, Nat.reduceAdd, if_true, if_false, reduceCtorEq, Option.bind_some, Option.map_some]
        refine CallK.pure _ _ c1 call22 (by simp only [AV.nmIn, bnd, req, ret, onQ, AV.isTup, isTupL, true_and, and_self, Bool.false_eq_true, List.append_nil, vw.vwL, vw, AV.free, AV.freeL, Bool.or_self]; all_goals (and_intros <;> first | exact AV.subL_refl _ | omega | (simp [AV.sub]; done) | rfl | (simp [AV.subL_refl]; done) | (simp; exact AV.subL_refl _))) ?_
        simp only [exOps_cons, exOp_eq, exCall_eq, nx_eq, cur_eq, evL, stepQ, ev, lk, putT, erA, inB, opt, ret, onQ, ap, true_and, Nat.reduceEqDiff, Nat.reduceLT, Nat.reduceAdd, if_true, if_false, reduceCtorEq, Option.bind_some, Option.map_some]
        refine CallK.pure _ _ c2 call22 (by simp only [AV.nmIn, bnd, req, ret, onQ, AV.isTup, isTupL, true_and, and_self, Bool.false_eq_true, List.append_nil, vw.vwL, vw, AV.free, AV.freeL, Bool.or_self]; all_goals (and_intros <;> first | exact AV.subL_refl _ | omega | (simp [AV.sub]; done) | rfl | (simp [AV.subL_refl]; done) | (simp; exact AV.subL_refl _))) ?_
        simp only [exOps_nil, exOps_cons, exOp_eq, nx_eq, cur_eq, stepQ, ev, lk, putT, erA, inB, opt, bnd, req, ret, onQ, ap, binG, eqOp, intsOf, and_true, true_and, and_self, Nat.reduceEqDiff, Nat.reduceLT, Nat.reduceAdd, if_true, if_false, reduceCtorEq, Option.map_some, List.append_nil, tt_5, tt_24, beq_self_eq_true]
        repeat (refine ⟨by omega, ?_⟩)
        refine hK _ ?_
        clear hK K
        refine W.ret ?_
        simp only [fin_ret, finB, resQ, resV, leL, AV.nmIn, entsIn, lk, opt, bnd, req, ret, onQ, AV.isTup, and_self, Nat.reduceEqDiff, if_true, if_false, reduceCtorEq]
      · refine W.seqK fun K hK => W.drawK [⟨0, false, []⟩, ⟨1, false, [0]⟩, ⟨0, false, []⟩, ⟨0, true, [2]⟩, ⟨0, false, []⟩, ⟨0, true, [4]⟩, ⟨0, false, [4, 5]⟩, ⟨0, false, [2, 3, 4, 5, 6]⟩, ⟨10, false, [0, 1, 2, 3, 4, 5, 6, 7]⟩, ⟨0, false, [0, 1, 2, 3, 4, 5, 6, 7, 8]⟩] mix tt_ok (by kernel_rfl) ?_
        simp only [exOp_eq, exCall_eq, exD_nil, exD_cons, nxD_eq, cur_eq, curV_eq, flI, flE, ownB, ownL, ownS, evL, stepQ, ev, ofV, lk, putT, erA, inB, opt, bnd, req, ret, onQ, ap, up, er, binG, binF, intF, bltQ, bltV, lenF, cvQ, appQ, appZ, appV, srcQ, rowOf, Row.len, Row.sz, Row.lst, and_true, true_and, and_self, and_false, or_false, Nat.reduceEqDiff, Nat.reduceLT, Nat.reduceLeDiff, Nat.reduceAdd, Nat.reduceMul, Int.toNat_natCast, Nat.zero_le, if_true, if_false, reduceCtorEq, ne_eq, not_false_eq_true, not_true_eq_false, List.getElem?_cons_zero, Option.bind_some, Option.map_some, tt_3, tt_5, tt_22, hk0, w0, w1, w2, hm0, hz0]
        repeat (refine ⟨by omega, ?_⟩)
        refine hK _ ?_
        clear hK K
        have c2 : FnR Tryd.prog G 22 [.lstI .u8 (List.take z (List.drop 0 (List.replicate z 0))), .lstI .u8 b] [] (.agg [.ints .u8 32 D]) [] := by rw [List.drop_zero, List.take_of_length_le (by simp)]; exact c2
        refine W.seqK fun K hK => W.regionK tt_ok ?_
        simp only [exOps_cons, exOp_eq, exCall_eq, nx_eq, cur_eq, evL, stepQ, ev, lk, putT, erA, inB, opt, ret, onQ, ap, true_and, Nat.reduceEqDiff, Nat.reduceLT, Nat.reduceAdd, if_true, if_false, reduceCtorEq, Option.bind_some, Option.map_some]
        refine CallK.pure _ _ c1 call22 (by simp only [AV.nmIn, bnd, req, ret, onQ, AV.isTup, isTupL, true_and, and_self, Bool.false_eq_true, List.append_nil, vw.vwL, vw, AV.free, AV.freeL, Bool.or_self]; all_goals (and_intros <;> first | exact AV.subL_refl _ | omega | (simp [AV.sub]; done) | rfl | (simp [AV.subL_refl]; done) | (simp; exact AV.subL_refl _))) ?_
        simp only [exOps_cons, exOp_eq, exCall_eq, nx_eq, cur_eq, evL, stepQ, ev, lk, putT, erA, inB, opt, ret, onQ, ap, true_and, Nat.reduceEqDiff, Nat.reduceLT, Nat.reduceAdd, if_true, if_false, reduceCtorEq, Option.bind_some, Option.map_some]
        refine CallK.pure _ _ c2 call22 (by simp only [Bool.or_false, AV.nmIn, lk, opt, bnd, req, ret, onQ, AV.isTup, isTupL, Ent.row, and_true, true_and, and_self, Nat.zero_add, if_true, forall_const, List.append_nil, vw.vwL, vw, viewR, AV.free, AV.freeL, Ent.row, Bool.or_self]; all_goals (and_intros <;> first | exact AV.subL_refl _ | omega | (simp [AV.sub]; done) | rfl | (simp [AV.subL_refl]; done) | (simp; exact AV.subL_refl _))) ?_
        simp only [exOps_nil, exOps_cons, exOp_eq, nx_eq, cur_eq, stepQ, ev, lk, putT, erA, inB, opt, bnd, req, ret, onQ, ap, binG, eqOp, intsOf, and_true, true_and, and_self, Nat.reduceEqDiff, Nat.reduceLT, Nat.reduceAdd, if_true, if_false, reduceCtorEq, Option.map_some, List.append_nil, tt_5, tt_24, beq_self_eq_true]
        repeat (refine ⟨by omega, ?_⟩)
        refine hK _ ?_
        clear hK K
        refine W.ret ?_
        simp only [fin_ret, finB, resQ, resV, leL, AV.nmIn, entsIn, lk, opt, bnd, req, ret, onQ, AV.isTup, and_self, Nat.reduceEqDiff, if_true, if_false, reduceCtorEq]
    · have hkt : List.take key.length key = key := List.take_length
      refine W.seqK fun K hK => W.drawK [⟨0, false, []⟩, ⟨1, false, [0]⟩, ⟨0, false, []⟩, ⟨0, true, [2]⟩, ⟨0, false, []⟩, ⟨0, true, [4]⟩, ⟨0, false, [4, 5]⟩, ⟨0, false, [2, 3, 4, 5, 6]⟩, ⟨10, false, [0, 1, 2, 3, 4, 5, 6, 7]⟩, ⟨0, false, [0, 1, 2, 3, 4, 5, 6, 7, 8]⟩] mix tt_ok (by kernel_rfl) ?_
      simp only [decide_false, Bool.or_false, List.contains_cons, List.contains_nil, Nat.reduceBEq, exOp_eq, exCall_eq, exD_nil, exD_cons, nxD_eq, cur_eq, curV_eq, flI, flE, ownB, ownL, ownS, evL, stepQ, ev, ofV, lk, putT, erA, inB, opt, bnd, req, ret, onQ, ap, up, er, binG, binF, intF, bltQ, bltV, lenF, cvQ, appQ, appZ, appV, srcQ, rowOf, Row.len, Row.sz, Row.lst, and_true, true_and, and_self, and_false, or_false, Nat.reduceEqDiff, Nat.reduceLT, Nat.reduceLeDiff, Nat.reduceAdd, Nat.reduceSub, Nat.reduceMul, Nat.reduceDiv, Int.toNat_natCast, Nat.le_refl, if_true, if_false, Bool.false_eq_true, reduceCtorEq, ne_eq, not_false_eq_true, List.getElem?_cons_zero, Option.bind_some, Option.map_some, tt_3, tt_5, tt_22, hk0, w0, w1, w2, hm0, hkt]
      repeat (refine ⟨by omega, ?_⟩)
      refine hK _ ?_
      clear hK K
      have c2 : FnR Tryd.prog G 22 [.lstI .u8 (List.take (key.length + z) (List.drop 0 (key ++ List.replicate z 0))), .lstI .u8 b] [] (.agg [.ints .u8 32 D]) [] := by rw [List.drop_zero, List.take_of_length_le (by simp)]; exact c2
      refine W.seqK fun K hK => W.regionK tt_ok ?_
      simp only [exOps_cons, exOp_eq, exCall_eq, nx_eq, cur_eq, evL, stepQ, ev, lk, putT, erA, inB, opt, ret, onQ, ap, true_and, Nat.reduceEqDiff, Nat.reduceLT, Nat.reduceAdd, if_true, if_false, reduceCtorEq, Option.bind_some, Option.map_some]
      refine CallK.pure _ _ c1 call22 (by simp only [AV.nmIn, bnd, req, ret, onQ, AV.isTup, isTupL, true_and, and_self, Bool.false_eq_true, List.append_nil, vw.vwL, vw, AV.free, AV.freeL, Bool.or_self]; all_goals (and_intros <;> first | exact AV.subL_refl _ | omega | (simp [AV.sub]; done) | rfl | (simp [AV.subL_refl]; done) | (simp; exact AV.subL_refl _))) ?_
      simp only [exOps_cons, exOp_eq, exCall_eq, nx_eq, cur_eq, evL, stepQ, ev, lk, putT, erA, inB, opt, ret, onQ, ap, true_and, Nat.reduceEqDiff, Nat.reduceLT, Nat.reduceAdd, if_true, if_false, reduceCtorEq, Option.bind_some, Option.map_some]
      refine CallK.pure _ _ c2 call22 (by simp only [Bool.or_false, AV.nmIn, lk, opt, bnd, req, ret, onQ, AV.isTup, isTupL, Ent.row, and_true, true_and, and_self, Nat.zero_add, if_true, forall_const, List.append_nil, vw.vwL, vw, viewR, AV.free, AV.freeL, Ent.row, Bool.or_self]; all_goals (and_intros <;> first | exact AV.subL_refl _ | omega | (simp [AV.sub]; done) | rfl | (simp [AV.subL_refl]; done) | (simp; exact AV.subL_refl _))) ?_
      simp only [exOps_nil, exOps_cons, exOp_eq, nx_eq, cur_eq, stepQ, ev, lk, putT, erA, inB, opt, bnd, req, ret, onQ, ap, binG, eqOp, intsOf, and_true, true_and, and_self, Nat.reduceEqDiff, Nat.reduceLT, Nat.reduceAdd, if_true, if_false, reduceCtorEq, Option.map_some, List.append_nil, tt_5, tt_24, beq_self_eq_true]
      repeat (refine ⟨by omega, ?_⟩)
      refine hK _ ?_
      clear hK K
      refine W.ret ?_
      simp only [fin_ret, finB, resQ, resV, leL, AV.nmIn, entsIn, lk, opt, bnd, req, ret, onQ, AV.isTup, and_self, Nat.reduceEqDiff, if_true, if_false, reduceCtorEq]
end Go.Proofs.YtageadccfdbmjaaDoor
