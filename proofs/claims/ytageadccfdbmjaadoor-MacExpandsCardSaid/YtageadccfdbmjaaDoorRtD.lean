/- The document's Extract. -/
import Derived.Test.YtageadccfdbmjaaDoorRtB
-- TT 2 3 4 5 22 24 26 28 59 71
-- SIMP Sx.stP
set_option linter.unusedVariables false
set_option linter.unusedSimpArgs false
namespace Go.Proofs.YtageadccfdbmjaaDoor
open Sx
set_option maxRecDepth 100000
set_option maxHeartbeats 2000000
theorem rextract_fn (key b : List Int) (hk : key.length ≤ 80000) (hb : b.length ≤ 80000) (hK : ∀ x ∈ key, 0 ≤ x ∧ x < 256) (hB : ∀ x ∈ b, 0 ≤ x ∧ x < 256) : FnR Tryd.prog G 37 [.lstI .u8 key, .lstI .u8 b] [] (.agg [.ints .u8 32 (hmac key b)]) [] := by
  have c1 := rmac_fn key b hk hb hK hB
  have hl := hmac_len key b
  generalize hmac key b = D at *
  refine FnR.of_walk (m := 8) (n0 := 0) tt_ok Tryd.func37 rfl rfl (by simp) (by simp [nmH]) ?_
  rw [show Tryd.f37.results.toList = [.cell 4 24] from rfl]
  refine W.seqK fun K hK => W.regionK tt_ok ?_
  simp only [exOps_nil, exOps_cons, exOp_eq, nx_eq, cur_eq, stepQ, parT, putT, erA, inB, opt, ret, onQ, ap, up, er, true_and, Nat.reduceEqDiff, Nat.reduceLT, Nat.zero_add, if_false, reduceCtorEq, tt_24]
  refine hK _ ?_
  clear hK K
  refine W.seqK fun K hK => W.regionK tt_ok ?_
  simp only [exOps_cons, exOp_eq, exCall_eq, nx_eq, cur_eq, evL, stepQ, ev, lk, putT, erA, inB, opt, ret, onQ, ap, true_and, Nat.reduceEqDiff, Nat.reduceLT, Nat.reduceAdd, if_true, if_false, reduceCtorEq, Option.bind_some, Option.map_some]
  refine CallK.pure _ _ c1 call21 (by simp only [AV.nmIn, bnd, req, ret, onQ, AV.isTup, isTupL, true_and, and_self, Bool.false_eq_true, List.append_nil, vw.vwL, vw, AV.free, AV.freeL, Bool.or_self]; all_goals (and_intros <;> first | exact AV.subL_refl _ | omega | (simp [AV.sub]; done) | rfl | (simp [AV.subL_refl]; done) | (simp; exact AV.subL_refl _))) ?_
  simp only [exOps_nil, exOps_cons, exOp_eq, nx_eq, cur_eq, stepQ, ev, lk, putT, erA, inB, opt, bnd, req, ret, onQ, ap, up, er, AV.isAgg, Kd.agg, comps, szL, csize, takeI, takeC, dropC, stE, stC, stS, true_and, and_self, Nat.reduceEqDiff, Nat.reduceLT, Nat.reduceLeDiff, Nat.reduceAdd, Nat.reduceSub, Nat.sub_self, Nat.le_refl, Nat.add_zero, Nat.zero_add, if_true, if_false, reduceCtorEq, Option.bind_some, Option.map_some, List.append_nil, List.nil_append, tt_24, Sx.stP]
  repeat (refine ⟨by omega, ?_⟩)
  refine hK _ ?_
  clear hK K
  refine W.ret ?_
  simp only [fin_ret, finB, resQ, resV, leL, AV.nmIn, AV.nmInL, entsIn, lk, opt, bnd, req, ret, onQ, AV.isTup, ldP, ldE, ldC, ldS, Kd.agg, comps, csize, takeI, takeC, dropC, and_self, Nat.reduceEqDiff, Nat.reduceLT, Nat.reduceLeDiff, Nat.reduceSub, Nat.sub_self, Nat.le_refl, Nat.add_zero, if_true, if_false, reduceCtorEq, Option.bind_some, Option.map_some, tt_24]
theorem call37 : Callable Tryd.prog 37 := ⟨_, Tryd.func37, by kernel_rfl, by kernel_rfl⟩
end Go.Proofs.YtageadccfdbmjaaDoor
