/- HMAC. -/
import Derived.Test.YtbefcdgjainflaaHsI
-- TT 3 4 5 39 36 66 93 94 96 103
-- TOUCH 51 1
set_option linter.unusedVariables false
set_option linter.unusedSectionVars false
set_option linter.unusedSimpArgs false
namespace Go.Proofs.Ytbefcdgjainflaa
open Sx
variable [Inhabited Tabs]
set_option maxRecDepth 100000
set_option maxHeartbeats 4000000
/-- A key's bytes, and as they are filled up, and turned. -/
def kD (key : List Int) : List Int := if 64 < key.length then dig key else key
def kZ (k : List Int) : List Int := k ++ List.replicate (64 - k.length) 0
def kX (y : Int) (l : List Int) : Nat → List Int
  | 0 => l
  | n + 1 => (kX y l n).set n (bits .xor .u8 ((kX y l n).getD n 0) y)
theorem kD_len (key : List Int) : (kD key).length ≤ 64 := by
  unfold kD
  split
  · rw [dig_len]; omega
  · omega
theorem kZ_len {k : List Int} (h : k.length ≤ 64) : (kZ k).length = 64 := by simp [kZ]; omega
theorem kX_len (y : Int) (l : List Int) : ∀ n, (kX y l n).length = l.length
  | 0 => rfl
  | n + 1 => by rw [kX, List.length_set, kX_len y l n]
def kB (y : Int) (key : List Int) : List Int := kX y (kZ (kD key)) 64
theorem kB_len (y : Int) (key : List Int) : (kB y key).length = 64 := by rw [kB, kX_len, kZ_len (kD_len key)]
theorem R_64 {l : List Int} (h : l.length = 64) : R l = [] := by rw [R, h]; exact List.drop_of_length_le (by omega)
theorem keyed_fn (key : List Int) (y : Int) (hk : key.length ≤ 90000) :
    FnR Try.prog G 50 [.lstI .u8 key, .int .u8 y] [] (.agg [.ints .u32 8 (S (kB y key)), .lstI .u8 [], .int .u64 64]) [] := by
  have hz : (List.replicate 8 (0 : Int)) = zst := rfl
  refine FnR.of_walkV (m := 30) tt_ok Try.func50 rfl rfl (by simp) ?_
  rw [show Try.f50.results.toList = [.cell 4 96] from rfl]
  refine W.seqK fun K hK => W.regionK tt_ok ?_
  simp only [exOps_nil, exOps_cons, exOp_eq, nx_eq, cur_eq, stepQ, parT, putT, erA, inB, opt, ret, onQ, ap, up, er, true_and, Nat.reduceEqDiff, Nat.reduceLT, Nat.zero_add, if_false, reduceCtorEq, tt_96]
  refine hK _ ?_
  clear hK K
  refine W.joinF ⟨[(0, .lstI .u8 (kD key)), (1, .int .u8 y), (4, .ptr 0 0 0 1)], [(0, .obj 96 (.agg [.ints .u32 8 (List.replicate 8 0), .nils, .int .u64 0]))], 1024, 30⟩ (fun K hK => ?_) ?_
  · by_cases h1 : (64 : Int) < key.length
    · have hkd : kD key = dig key := if_pos (by omega)
      have cs := sum_fn key hk
      have hdl := dig_len key
      have hdt : List.take 32 (dig key) = dig key := List.take_of_length_le (by omega)
      rw [hkd] at hK
      generalize dig key = D at *
      refine W.seqK fun K hK => W.regionK tt_ok ?_
      simp only [decide_true, exOps_nil, exOps_cons, exOp_eq, exCall_eq, nx_eq, cur_eq, evL, stepQ, ev, ofV, lk, putT, erA, inB, opt, bnd, req, ret, onQ, ap, binI, binG, binF, intF, bltQ, bltV, lenF, true_and, and_self, or_false, Nat.reduceEqDiff, Nat.reduceLT, Nat.reduceAdd, if_true, if_false, reduceCtorEq, List.getElem?_cons_zero, Option.bind_some, Option.map_some, tt_39, h1]
      refine hK _ ?_
      clear hK K
      refine W.cond (b := true) (by simp only [ev, lk, Nat.reduceEqDiff, if_true, if_false, reduceCtorEq]) (fun _ => ?_) (fun h => absurd h (by simp))
      refine W.seqK fun K hK => W.regionK tt_ok ?_
      simp only [exOps_cons, exOp_eq, exCall_eq, nx_eq, cur_eq, evL, stepQ, ev, lk, putT, erA, inB, opt, ret, onQ, ap, true_and, Nat.reduceEqDiff, Nat.reduceLT, Nat.reduceAdd, if_true, if_false, reduceCtorEq, Option.bind_some, Option.map_some]
      refine CallK.pure _ _ cs call54 (by simp only [AV.nmIn, bnd, req, ret, onQ, AV.isTup, isTupL, true_and, and_self, Bool.false_eq_true, List.append_nil, vw.vwL, vw, AV.free, AV.freeL, Bool.or_self]; all_goals (and_intros <;> first | exact AV.subL_refl _ | omega | (simp [AV.sub]; done) | rfl | (simp [AV.subL_refl]; done) | (simp; exact AV.subL_refl _))) ?_
      simp only [exOps_nil, exOps_cons, exOp_eq, nx_eq, cur_eq, stepQ, ev, lk, putT, erA, inB, opt, bnd, req, ret, onQ, ap, up, er, AV.isAgg, Kd.agg, comps, szL, csize, takeI, takeC, dropC, stP, stE, stC, stS, true_and, and_self, Nat.reduceEqDiff, Nat.reduceLT, Nat.reduceLeDiff, Nat.reduceAdd, Nat.reduceSub, Nat.sub_self, Nat.le_refl, Nat.add_zero, Nat.zero_add, if_true, if_false, reduceCtorEq, Option.bind_some, Option.map_some, List.append_nil, List.nil_append, tt_36]
      repeat (refine ⟨by omega, ?_⟩)
      refine hK _ ?_
      clear hK K
      refine W.region tt_ok ?_
      simp only [exOps_nil, exOps_cons, exOp_eq, nx_eq, cur_eq, stepQ, ev, lk, putT, erA, inB, opt, bnd, req, ret, onQ, ap, comps, szL, csize, slF, bd, bds, thn_normal, true_and, and_self, Nat.reduceEqDiff, Nat.reduceLT, Nat.reduceLeDiff, Nat.reduceAdd, Nat.reduceSub, Nat.reduceMul, Nat.add_zero, if_true, if_false, reduceCtorEq, Option.bind_some, Option.map_some, tt_5, tt_36]
      refine hK _ ?_
      simp [wkF, leF, leFE, fzN, entSub, AV.sub, AV.subL, vw, vw.vwL, viewR, onQ, opt, bnd, req, ret, lk, Nm, Ent.row, AV.isTup, AV.nmIn, AV.nmInL, nmE, Ent.nmIn, hdl, hdt]
    · have hkd : kD key = key := if_neg (by omega)
      rw [hkd] at hK
      refine W.seqK fun K hK => W.regionK tt_ok ?_
      simp only [decide_false, exOps_nil, exOps_cons, exOp_eq, exCall_eq, nx_eq, cur_eq, evL, stepQ, ev, ofV, lk, putT, erA, inB, opt, bnd, req, ret, onQ, ap, binI, binG, binF, intF, bltQ, bltV, lenF, true_and, and_self, or_false, Nat.reduceEqDiff, Nat.reduceLT, Nat.reduceAdd, if_true, if_false, reduceCtorEq, List.getElem?_cons_zero, Option.bind_some, Option.map_some, tt_39, h1]
      refine hK _ ?_
      clear hK K
      refine W.cond (b := false) (by simp only [ev, lk, Nat.reduceEqDiff, if_true, if_false, reduceCtorEq]) (fun h => absurd h (by simp)) (fun _ => W.skip ?_)
      simp only [thn_normal]
      refine hK _ ?_
      simp [wkF, leF, leFE, fzN, entSub, AV.sub, AV.subL, vw, vw.vwL, onQ, opt, bnd, req, ret, lk, Nm, AV.isTup, AV.nmIn, AV.nmInL, nmE, Ent.nmIn]
  have hkl := kD_len key
  have hk2 : kB y key = kX y (kZ (kD key)) 64 := rfl
  rw [hk2]
  generalize kD key = k at *
  refine W.seqK fun K hK => W.regionK tt_ok ?_
  simp only [exOps_nil, exOps_cons, exOp_eq, nx_eq, cur_eq, stepQ, putT, erA, inB, opt, ret, onQ, ap, up, er, true_and, Nat.reduceEqDiff, Nat.reduceLT, Nat.reduceAdd, if_false, reduceCtorEq, tt_103]
  refine hK _ ?_
  clear hK K
  have hkt : List.take (min k.length 64) k = k := List.take_of_length_le (by omega)
  refine W.seqK fun K hK => W.regionK tt_ok ?_
  simp only [exOps_nil, exOps_cons, exOp_eq, exCall_eq, nx_eq, cur_eq, evL, stepQ, ev, lk, putT, erA, inB, opt, bnd, req, ret, onQ, ap, up, er, comps, szL, csize, bltQ, bltV, slF, bd, bds, copyQ, srcQ, rowOf, Row.len, Row.sz, Row.take, Ent.put, Ent.row, and_true, true_and, and_self, or_false, Nat.reduceEqDiff, Nat.reduceLT, Nat.reduceLeDiff, Nat.reduceAdd, Nat.reduceSub, Nat.reduceMul, Nat.add_zero, Nat.zero_add, if_true, if_false, reduceCtorEq, Option.bind_some, Option.map_some, tt_5, tt_39, tt_103, hkt]
  rw [show List.take 0 (List.replicate 64 (0 : Int)) ++ k ++ List.drop k.length (List.replicate 64 (0 : Int)) = kZ k by rw [List.take_zero, List.nil_append, List.drop_replicate]; rfl]
  have hZl := kZ_len hkl
  generalize kZ k = z at *
  refine ⟨by simp, ?_⟩
  refine hK _ ?_
  clear hK K
  refine W.seqK fun Kx hKx => ?_
  refine W.seqK fun K hK => W.regionK tt_ok ?_
  simp only [exOps_nil, exOps_cons, exOp_eq, nx_eq, cur_eq, stepQ, ev, ofV, putT, erA, inB, opt, ret, onQ, ap, true_and, Nat.reduceEqDiff, Nat.reduceLT, Nat.reduceAdd, if_false, reduceCtorEq]
  refine hK _ ?_
  clear hK K
  refine W.blockK ?_
  refine W.loopF (fun n : Nat => n ≤ 64) (fun n => ⟨[(1, .int .u8 y), (4, .ptr 0 0 0 1), (6, .ptr 1024 0 0 1), (17, .int .i64 (n : Int))], [(1024, .obj 103 (.agg [.ints .u8 64 (kX y z n)])), (0, .obj 96 (.agg [.ints .u32 8 (List.replicate 8 0), .nils, .int .u64 0]))], 2048, 30⟩) (fun n => 64 - n) 0 (by simp) (by simp [wkF, leF, leFE, fzN, entSub, AV.sub, AV.subL, vw, vw.vwL, onQ, opt, bnd, req, ret, lk, Nm, AV.isTup, AV.nmIn, AV.nmInL, nmE, Ent.nmIn, kX]) ?_
  intro n hn K3 hK3
  have hxl := kX_len y z n
  by_cases hlt : n < 64
  · have c1 : (n : Int) < 64 := by omega
    have hw1 := wrap_up n (by omega)
    refine W.seqK fun K hK => W.regionK tt_ok ?_
    simp only [decide_true, exOps_nil, exOps_cons, exOp_eq, nx_eq, cur_eq, stepQ, ev, ofV, lk, putT, erA, inB, opt, bnd, req, ret, onQ, ap, binI, binG, binF, intF, true_and, and_self, Nat.reduceEqDiff, Nat.reduceLT, Nat.reduceAdd, if_true, if_false, c1]
    refine hK _ ?_
    clear hK K
    refine W.seqK fun K hK => W.cond (b := true) (by simp only [ev, lk, Nat.reduceEqDiff, if_true, if_false]) (fun _ => W.skip ?_) (fun h => absurd h (by simp))
    rw [thn_normal]
    refine hK _ ?_
    clear hK K
    refine W.seqK fun K hK => W.blockK ?_
    refine W.seqK fun K hK => W.regionK tt_ok ?_
    simp only [exOps_nil, exOps_cons, exOp_eq, nx_eq, cur_eq, stepQ, ev, lk, putT, erA, inB, opt, ret, onQ, ap, true_and, Nat.reduceEqDiff, Nat.reduceLT, Nat.reduceAdd, if_true, if_false]
    refine hK _ ?_
    clear hK K
    refine W.region tt_ok ?_
    simp only [exOps_nil, exOps_cons, exOp_eq, nx_eq, cur_eq, stepQ, ev, lk, putT, erA, inB, opt, bnd, req, ret, onQ, ap, up, er, AV.isTup, AV.isAgg, binI, binG, binF, intF, Kd.elem, Kd.isInt, ixA, asI, ldP, ldE, ldC, ldS, Kd.agg, comps, csize, takeI, takeC, dropC, stP, stE, stC, stS, thn_normal, inb_normal, and_true, true_and, and_self, Nat.reduceEqDiff, Nat.reduceLT, Nat.reduceLeDiff, Nat.reduceAdd, Nat.reduceSub, Int.toNat_natCast, Nat.zero_add, if_true, if_false, Bool.false_eq_true, reduceCtorEq, Option.bind_some, Option.map_some, tt_5, tt_103, Int.toNat_natCast, hlt]
    repeat (refine ⟨by omega, ?_⟩)
    refine hK _ ?_
    refine W.region tt_ok ?_
    simp only [exOps_nil, exOps_cons, exOp_eq, nx_eq, cur_eq, stepQ, ev, ofV, lk, putT, erA, inB, opt, bnd, req, ret, onQ, ap, binI, binG, binF, intF, thn_normal, true_and, and_self, Nat.reduceEqDiff, Nat.reduceLT, Nat.reduceAdd, if_true, if_false, hw1]
    refine hK3 _ (n + 1) (by omega) (by omega) ?_
    simp [wkF, leF, leFE, fzN, entSub, AV.sub, AV.subL, vw, vw.vwL, onQ, opt, bnd, req, ret, lk, Nm, AV.isTup, AV.nmIn, AV.nmInL, nmE, Ent.nmIn, kX]
  have hn' : n = 64 := by omega
  subst hn'
  have c1 : ¬ (((64 : Nat) : Int) < 64) := by omega
  refine W.seqK fun K hK => W.regionK tt_ok ?_
  simp only [decide_false, exOps_nil, exOps_cons, exOp_eq, nx_eq, cur_eq, stepQ, ev, ofV, lk, putT, erA, inB, opt, bnd, req, ret, onQ, ap, binI, binG, binF, intF, true_and, and_self, Nat.reduceEqDiff, Nat.reduceLT, Nat.reduceAdd, if_true, if_false, c1]
  refine hK _ ?_
  clear hK K
  refine W.seqK fun K hK => W.cond (b := false) (by simp only [ev, lk, Nat.reduceEqDiff, if_true, if_false]) (fun h => absurd h (by simp)) (fun _ => W.exit ?_)
  simp only [thn_normal, thn_exit, inb_exit, if_true]
  refine hKx _ ?_
  have hne : kX y z 64 ≠ [] := fun h => by rw [h] at hxl; simp at hxl; omega
  have cw := writeZ_at 2096 (kX y z 64) (by omega) hne
  have hxt : List.take 64 (List.drop 0 (kX y z 64)) = kX y z 64 := by rw [List.drop_zero]; exact List.take_of_length_le (by omega)
  have hxl2 : (kX y z 64).length = 64 := by omega
  generalize S (kX y z 64) = S1 at *
  generalize kX y z 64 = x at *
  rw [hxl2] at cw
  have cw2 : FnR Try.prog G 51 [.agg [.ints .u32 8 zst, .lstI .u8 [], .int .u64 0], .lstI .u8 (List.take 64 (List.drop 0 x))] [] (.agg [.ints .u32 8 S1, .sl 2096 1 64 0, .int .u64 64]) [(2096, .vec 5 (.ints .u8 x))] := by rw [hxt]; exact cw
  refine W.seqK fun K hK => W.regionK tt_ok ?_
  simp only [exOps_cons, exOp_eq, exCall_eq, nx_eq, cur_eq, evL, evP, stepQ, ev, lk, putT, erA, inB, opt, bnd, req, ret, onQ, ap, comps, szL, csize, slF, bd, bds, bldF, bldS, and_true, true_and, and_self, Nat.reduceEqDiff, Nat.reduceLT, Nat.reduceLeDiff, Nat.reduceAdd, Nat.reduceSub, Nat.reduceMul, Nat.add_zero, if_true, if_false, reduceCtorEq, Option.bind_some, Option.map_some, tt_5, tt_96, tt_103]
  rw [hz]
  generalize zst = Z at *
  refine ⟨by simp [tt_39, tt_93, tt_94], ?_⟩
  refine CallK.with [] [(2096, .vec 5 (.ints .u8 x))] _ _ cw2 call51 (by simp only [Bool.or_true, Bool.or_false, AV.nmIn, lk, opt, bnd, req, ret, onQ, AV.isTup, isTupL, Ent.row, and_true, true_and, and_self, Nat.zero_add, if_true, if_false, reduceCtorEq, forall_const, List.append_nil, vw.vwL, vw, viewR, AV.free, AV.freeL, Ent.row, Bool.or_self]; exact ⟨by omega, by simp [AV.subL, AV.sub], by simp, by simp [entsFree, Ent.free, Row.free]⟩) (by simp [leL]) (by intro n hn; right; revert hn; simp only [Nm, lk]; split <;> simp <;> omega) (by simp [entsIn]) ?_
  simp only [callDel, exOps_nil, exOps_cons, exOp_eq, nx_eq, cur_eq, stepQ, ev, lk, putT, erA, inB, opt, bnd, req, ret, onQ, ap, up, er, AV.isAgg, Kd.agg, comps, szL, csize, takeI, takeC, dropC, stP, stE, stC, stS, true_and, and_self, Nat.reduceEqDiff, Nat.reduceLT, Nat.reduceLeDiff, Nat.reduceAdd, Nat.reduceSub, Nat.sub_self, Nat.le_refl, Nat.add_zero, Nat.zero_add, if_true, if_false, reduceCtorEq, Option.bind_some, Option.map_some, List.append_nil, List.nil_append, tt_96, List.map_cons, List.map_nil, List.reverse_cons, List.reverse_nil]
  repeat (refine ⟨by omega, ?_⟩)
  refine hK _ ?_
  clear hK K
  refine W.ret ?_
  simp only [finV_ret, finVB, resQ, resV, lk, opt, bnd, req, ret, onQ, AV.isTup, ldP, ldE, ldC, ldS, Kd.agg, comps, csize, takeI, takeC, dropC, true_and, and_self, Nat.reduceEqDiff, Nat.reduceLT, Nat.reduceLeDiff, Nat.reduceSub, Nat.sub_self, Nat.le_refl, Nat.add_zero, if_true, if_false, reduceCtorEq, Option.bind_some, Option.map_some, tt_96]
  simp [vw, vw.vwL, viewR, lk, Ent.row, opt, bnd, req, ret, AV.nmIn, hxl2]
end Go.Proofs.Ytbefcdgjainflaa
