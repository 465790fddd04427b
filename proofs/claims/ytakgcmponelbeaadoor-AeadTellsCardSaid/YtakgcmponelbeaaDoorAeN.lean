/- The reference: low, nonce, filled. -/
import Derived.Test.YtakgcmponelbeaaDoorAeI
-- TT 3 5 23 24 36
set_option linter.unusedVariables false
set_option linter.unusedSimpArgs false
namespace Go.Proofs.YtakgcmponelbeaaDoor
open Sx
set_option maxRecDepth 100000
set_option maxHeartbeats 2000000
def vD (v : Int) : Nat → Int
  | 0 => v
  | k + 1 => vD v k / 256
theorem vD_ok {v : Int} (hv : 0 ≤ v ∧ v < 18446744073709551616) : ∀ k, 0 ≤ vD v k ∧ vD v k < 18446744073709551616
  | 0 => hv
  | k + 1 => by have := vD_ok hv k; simp only [vD]; omega
theorem vD_eq (v : Int) : ∀ k, vD v k = v / 256 ^ k
  | 0 => by simp [vD]
  | k + 1 => by rw [vD, vD_eq v k, Int.ediv_ediv_of_nonneg (Int.pow_nonneg (by decide)), Int.pow_succ]
theorem byte_eq {v : Int} (hv : 0 ≤ v ∧ v < 18446744073709551616) (k : Nat) (hk : k < 8) : IntKind.u8.wrap (Int.tmod (vD v k) 256) = IntKind.u8.wrap (v.fdiv (2 ^ min (8 * k) IntKind.u64.bits)) := by
  have h1 := vD_ok hv k
  rw [Int.tmod_eq_emod_of_nonneg h1.1, vD_eq]
  have h2 : min (8 * k) IntKind.u64.bits = 8 * k := by simp [IntKind.bits]; omega
  have h3 : (2 : Int) ^ (8 * k) = 256 ^ k := by rw [Int.pow_mul]; rfl
  rw [h2, h3, Int.fdiv_eq_ediv_of_nonneg _ (Int.pow_nonneg (by decide)), IntKind.wrap_u8, IntKind.wrap_u8]
  omega
def lowRI (v : Int) (k : Nat) : St :=
  match k with
  | 0 => ⟨[(0, .int .u64 (vD v 0)), (3, .nils), (4, .int .i64 (0 : Nat))], [], 1024, 18⟩
  | k + 1 => ⟨[(0, .int .u64 (vD v (k + 1))), (3, .sl 1000 1 0 (k + 1)), (4, .int .i64 ((k + 1 : Nat) : Int))], [(1000, .vec 5 (.ints .u8 (lowL [] v (k + 1))))], 1024, 18⟩
theorem lowR_own (v : Int) (hv : 0 ≤ v ∧ v < 18446744073709551616) : FnR Tryd.prog G 24 [.int .u64 v] [] (.sl 1000 1 0 8) [(1000, .vec 5 (.ints .u8 (lowL [] v 8)))] := by
  refine FnR.of_walk (m := 18) (n0 := 0) tt_ok Tryd.func24 rfl rfl (by simp) (by simp [nmH]) ?_
  rw [show Tryd.f24.results.toList = [.tmp 2] from rfl]
  refine W.seqK fun K hK => W.regionK tt_ok ?_
  simp only [exOps_nil, exOps_cons, exOp_eq, nx_eq, cur_eq, stepQ, ev, ofV, parT, putT, erA, inB, opt, ret, onQ, ap, true_and, Nat.reduceLT, Nat.zero_add, if_false, reduceCtorEq]
  refine hK _ ?_
  clear hK K
  refine W.seqK fun K hK => W.regionK tt_ok ?_
  simp only [exOps_nil, exOps_cons, exOp_eq, nx_eq, cur_eq, stepQ, ev, ofV, putT, erA, inB, opt, ret, onQ, ap, true_and, Nat.reduceEqDiff, Nat.reduceLT, Nat.reduceAdd, if_false, reduceCtorEq]
  refine hK _ ?_
  clear hK K
  refine W.seqK fun Kz hKz => ?_
  refine W.seqK fun K hK => W.regionK tt_ok ?_
  simp only [exOps_nil, exOps_cons, exOp_eq, nx_eq, cur_eq, stepQ, ev, ofV, putT, erA, inB, opt, ret, onQ, ap, true_and, Nat.reduceEqDiff, Nat.reduceLT, Nat.reduceAdd, if_false, reduceCtorEq]
  refine hK _ ?_
  clear hK K
  refine W.blockK ?_
  refine W.loopS (fun k : Nat => k ≤ 8) (lowRI v) (fun k => 8 - k) 0 (by simp) (by simp [lowRI, vD, wk, leL, lk, nmT, nmE, nmH, AV.nmIn]) ?_
  intro k hk K3 hK3
  match k, hk with
  | 0, hk =>
    simp only [lowRI]
    by_cases hk8 : 0 < 8
    · have c1 : ((0 : Nat) : Int) < 8 := by omega
      have hb := byte_eq hv (0) (by omega)
      have hv0 := vD_ok hv (0)
      have hd : Int.tdiv (vD v (0)) 256 = vD v (0) / 256 := Int.tdiv_eq_ediv_of_nonneg hv0.1
      have hw : IntKind.u64.wrap (vD v (0) / 256) = vD v (0) / 256 := by rw [IntKind.wrap_u64]; omega
      have hL := lowL_len [] v (0)
      refine W.seqK fun K hK => ?_
      refine W.seqK fun K hK => W.regionK tt_ok ?_
      simp only [decide_true, exOps_nil, exOps_cons, exOp_eq, nx_eq, cur_eq, stepQ, ev, ofV, lk, putT, erA, inB, opt, bnd, req, ret, onQ, ap, binG, binF, intF, true_and, and_self, Nat.reduceEqDiff, Nat.reduceLT, Nat.reduceAdd, if_true, if_false, reduceCtorEq, c1]
      refine hK _ ?_
      clear hK K
      refine W.cond (b := true) (by simp only [ev, lk, Nat.reduceEqDiff, if_true, if_false, reduceCtorEq]) (fun _ => W.skip ?_) (fun h => absurd h (by simp))
      rw [thn_normal]
      refine hK _ ?_
      refine W.seqK fun K hK => W.blockK ?_
      refine W.seqK fun K hK => W.regionK tt_ok ?_
      simp only [exOps_nil, exOps_cons, exOp_eq, exCall_eq, nx_eq, cur_eq, curV_eq, evL, evP, stepQ, ev, ofV, lk, putT, erA, inB, opt, bnd, req, ret, onQ, ap, up, er, AV.isTup, AV.isAgg, binG, binF, intF, intsOf, Kd.agg, comps, szL, csize, takeI, takeC, dropC, stC, stS, bltQ, bltV, cvQ, appQ, appV, srcQ, Row.len, Row.sz, Row.take, Row.drop, Ent.row, Row.lst, bldA, bslQ, zeroCs, cellsRow, and_true, true_and, and_self, and_false, Nat.reduceEqDiff, Nat.reduceLT, Nat.reduceLeDiff, Nat.reduceAdd, Nat.reduceSub, Nat.reduceMul, Nat.sub_self, Nat.le_refl, Nat.add_zero, Nat.zero_add, if_true, if_false, Bool.false_eq_true, reduceCtorEq, ne_eq, not_false_eq_true, Option.bind_some, Option.map_some, List.append_nil, List.nil_append, List.cons_append, tt_5, tt_23, tt_24, hb, List.replicate_succ, List.replicate_zero, List.set_cons_zero, List.length_cons, List.length_nil, List.drop_zero, List.take_succ_cons, List.take_zero, Nat.one_ne_zero, Nat.zero_add]
      repeat (refine ⟨by omega, ?_⟩)
      refine Or.inl ?_
      refine hK _ ?_
      clear hK K
      refine W.region tt_ok ?_
      simp only [exOps_nil, exOps_cons, exOp_eq, nx_eq, cur_eq, stepQ, ev, ofV, lk, putT, erA, inB, opt, bnd, req, ret, onQ, ap, binG, binF, intF, thn_normal, inb_normal, and_true, true_and, Nat.reduceEqDiff, Nat.reduceLT, Nat.reduceAdd, if_true, if_false, reduceCtorEq, ne_eq, hd, hw]
      repeat (refine ⟨by omega, ?_⟩)
      refine hK _ ?_
      clear hK K
      refine W.region tt_ok ?_
      simp only [exOps_nil, exOps_cons, exOp_eq, nx_eq, cur_eq, stepQ, ev, ofV, lk, putT, erA, inB, opt, bnd, req, ret, onQ, ap, binG, binF, intF, thn_normal, true_and, and_self, Nat.reduceEqDiff, Nat.reduceLT, Nat.reduceAdd, Nat.zero_add, if_true, if_false, reduceCtorEq, wrap_up (0) (by omega)]
      refine hK3 _ (0 + 1) 1136 1000 (by omega) (by omega) ⟨⟨by simp [Nm, lk], by simp [Nm, lk]⟩, by simp, by simp⟩ ?_
      simp [lowRI, lowL, vD, St.swap, tmMap, enMap, swp, AV.map, Ent.map, Row.map, wk, leL, lk, nmT, nmE, nmH, AV.nmIn, Ent.nmIn, Row.nmIn]
    · omega
  | k + 1, hk =>
    simp only [lowRI]
    by_cases hk8 : k + 1 < 8
    · have c1 : ((k + 1 : Nat) : Int) < 8 := by omega
      have hb := byte_eq hv (k + 1) (by omega)
      have hv0 := vD_ok hv (k + 1)
      have hd : Int.tdiv (vD v (k + 1)) 256 = vD v (k + 1) / 256 := Int.tdiv_eq_ediv_of_nonneg hv0.1
      have hw : IntKind.u64.wrap (vD v (k + 1) / 256) = vD v (k + 1) / 256 := by rw [IntKind.wrap_u64]; omega
      have hL := lowL_len [] v (k + 1)
      refine W.seqK fun K hK => ?_
      refine W.seqK fun K hK => W.regionK tt_ok ?_
      simp only [decide_true, exOps_nil, exOps_cons, exOp_eq, nx_eq, cur_eq, stepQ, ev, ofV, lk, putT, erA, inB, opt, bnd, req, ret, onQ, ap, binG, binF, intF, true_and, and_self, Nat.reduceEqDiff, Nat.reduceLT, Nat.reduceAdd, if_true, if_false, reduceCtorEq, c1]
      refine hK _ ?_
      clear hK K
      refine W.cond (b := true) (by simp only [ev, lk, Nat.reduceEqDiff, if_true, if_false, reduceCtorEq]) (fun _ => W.skip ?_) (fun h => absurd h (by simp))
      rw [thn_normal]
      refine hK _ ?_
      refine W.seqK fun K hK => W.blockK ?_
      refine W.seqK fun K hK => W.regionK tt_ok ?_
      simp only [exOps_nil, exOps_cons, exOp_eq, exCall_eq, nx_eq, cur_eq, evL, evP, stepQ, ev, ofV, lk, putT, erA, inB, opt, bnd, req, ret, onQ, ap, up, er, AV.isTup, AV.isAgg, binG, binF, intF, intsOf, Kd.agg, comps, szL, csize, takeI, takeC, dropC, stC, stS, bltQ, bltV, cvQ, appQ, appV, srcQ, Row.len, Row.sz, Row.take, Row.drop, Row.app, Ent.row, bldA, bslQ, zeroCs, cellsRow, and_true, true_and, and_self, and_false, or_false, Nat.reduceEqDiff, Nat.reduceLT, Nat.reduceLeDiff, Nat.reduceAdd, Nat.reduceSub, Nat.reduceMul, Nat.sub_self, Nat.le_refl, Nat.add_zero, Nat.zero_add, if_true, if_false, Bool.false_eq_true, reduceCtorEq, ne_eq, Option.bind_some, Option.map_some, List.append_nil, List.nil_append, List.cons_append, tt_5, tt_23, tt_24, hb, List.replicate_succ, List.replicate_zero, List.set_cons_zero, List.length_cons, List.length_nil, List.drop_zero, List.take_succ_cons, List.take_zero, Nat.one_ne_zero, Nat.zero_add]
      repeat (refine ⟨by omega, ?_⟩)
      refine hK _ ?_
      clear hK K
      refine W.region tt_ok ?_
      simp only [exOps_nil, exOps_cons, exOp_eq, nx_eq, cur_eq, stepQ, ev, ofV, lk, putT, erA, inB, opt, bnd, req, ret, onQ, ap, binG, binF, intF, thn_normal, inb_normal, and_true, true_and, Nat.reduceEqDiff, Nat.reduceLT, Nat.reduceAdd, if_true, if_false, reduceCtorEq, ne_eq, hd, hw]
      repeat (refine ⟨by omega, ?_⟩)
      refine hK _ ?_
      clear hK K
      refine W.region tt_ok ?_
      simp only [exOps_nil, exOps_cons, exOp_eq, nx_eq, cur_eq, stepQ, ev, ofV, lk, putT, erA, inB, opt, bnd, req, ret, onQ, ap, binG, binF, intF, thn_normal, true_and, and_self, Nat.reduceEqDiff, Nat.reduceLT, Nat.reduceAdd, if_true, if_false, reduceCtorEq, wrap_up (k + 1) (by omega)]
      refine hK3 _ (k + 1 + 1) 1136 1000 (by omega) (by omega) ⟨⟨by simp [Nm, lk], by simp [Nm, lk]⟩, by simp, by simp⟩ ?_
      rw [List.take_of_length_le (by simp at hL; omega)]
      have hC : lowL [] v (k + 1 + 1) = lowL [] v (k + 1) ++ [IntKind.u8.wrap (v.fdiv (2 ^ min (8 * (k + 1)) IntKind.u64.bits))] := rfl
      have hD : vD v (k + 1 + 1) = vD v (k + 1) / 256 := rfl
      simp only [lowRI, hC, hD]
      simp [Nat.add_assoc, St.swap, tmMap, enMap, swp, AV.map, Ent.map, Row.map, wk, leL, lk, nmT, nmE, nmH, AV.nmIn, Ent.nmIn, Row.nmIn]
    · have hk7 : k = 7 := by omega
      subst hk7
      have c1 : ¬ ((7 + 1 : Nat) : Int) < 8 := by omega
      refine W.seqK fun K hK => ?_
      refine W.seqK fun K hK => W.regionK tt_ok ?_
      simp only [decide_false, exOps_nil, exOps_cons, exOp_eq, nx_eq, cur_eq, stepQ, ev, ofV, lk, putT, erA, inB, opt, bnd, req, ret, onQ, ap, binG, binF, intF, true_and, and_self, Nat.reduceEqDiff, Nat.reduceLT, Nat.reduceAdd, if_true, if_false, reduceCtorEq, c1]
      refine hK _ ?_
      clear hK K
      refine W.cond (b := false) (by simp only [ev, lk, Nat.reduceEqDiff, if_true, if_false, reduceCtorEq]) (fun h => absurd h (by simp)) (fun _ => W.exit ?_)
      simp only [thn_normal, thn_exit, inb_exit, if_true]
      refine hKz _ ?_
      refine W.seqK fun K hK => W.regionK tt_ok ?_
      simp only [exOps_nil, exOps_cons, exOp_eq, nx_eq, cur_eq, stepQ, ev, lk, putT, erA, inB, opt, ret, onQ, ap, true_and, Nat.reduceEqDiff, Nat.reduceLT, Nat.reduceAdd, if_true, if_false, reduceCtorEq]
      refine hK _ ?_
      clear hK K
      refine W.ret ?_
      simp only [fin_ret, finB, resQ, resV, leL, AV.nmIn, entsIn, lk, opt, bnd, req, ret, onQ, AV.isTup, and_true, true_and, and_self, Nat.reduceEqDiff, if_true, if_false, reduceCtorEq]
      simp [Nm, lk, Ent.nmIn, Row.nmIn]
theorem lowR_at (X : Nat) (v : Int) (hv : 0 ≤ v ∧ v < 18446744073709551616) : FnR Tryd.prog G 24 [.int .u64 v] [] (.sl X 1 0 8) [(X, .vec 5 (.ints .u8 (lowL [] v 8)))] := by
  have h := (lowR_own v hv).rename 1000 X
  simpa [AV.map, swp, enMap, Ent.map, Row.map] using h
theorem lowR_ok (v : Int) (hv : 0 ≤ v ∧ v < 18446744073709551616) : FnR Tryd.prog G 24 [.int .u64 v] [] (.lstI .u8 (lowL [] v 8)) [] := by
  have hl : (lowL [] v 8).length = 8 := by rw [lowL_len]; rfl
  refine (lowR_own v hv).val (F := true) rfl ⟨8 ≤ (lowL [] v 8).length, ?_, by omega⟩
  simp [vw, viewR, Ent.row, lk, opt, bnd, req, ret]
  exact List.take_of_length_le (by omega)
end Go.Proofs.YtakgcmponelbeaaDoor
