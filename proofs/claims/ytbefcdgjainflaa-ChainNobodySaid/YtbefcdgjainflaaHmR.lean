/- Tables: Atom, Pub, Hash, Seal. -/
import Derived.Test.YtbefcdgjainflaaHmQ
-- TT 3 4 5 9 50 94 29 39 56 58 30
set_option linter.unusedVariables false
set_option linter.unusedSectionVars false
set_option linter.unusedSimpArgs false
namespace Go.Proofs.Ytbefcdgjainflaa
open Sx
variable [Inhabited Tabs]
set_option maxRecDepth 100000
set_option maxHeartbeats 2000000
theorem tbX_sw (X Y : Nat) (hX : 2 < X) (hY : 2 < Y) (l : List ByteArray) : enMap (swp X Y) (tbX X l) = tbX Y l := by
  have h0 : ¬ (0 : Nat) = X := by omega
  have h1 : ¬ (1 : Nat) = X := by omega
  have h2 : ¬ (2 : Nat) = X := by omega
  have g0 : ¬ (0 : Nat) = Y := by omega
  have g1 : ¬ (1 : Nat) = Y := by omega
  have g2 : ¬ (2 : Nat) = Y := by omega
  simp [tbX, enMap, swp, Ent.map, AV.map, AV.mapL, Row.map, h0, h1, h2, g0, g1, g2]
theorem tbX_sw3 (X Y : Nat) (hX : 3 < X) (hY : 3 < Y) (l : List ByteArray) : enMap (swp X Y) (tbX 3 l) = tbX 3 l := by
  have h0 : ¬ (0 : Nat) = X := by omega
  have h1 : ¬ (1 : Nat) = X := by omega
  have h2 : ¬ (2 : Nat) = X := by omega
  have h3 : ¬ (3 : Nat) = X := by omega
  have g0 : ¬ (0 : Nat) = Y := by omega
  have g1 : ¬ (1 : Nat) = Y := by omega
  have g2 : ¬ (2 : Nat) = Y := by omega
  have g3 : ¬ (3 : Nat) = Y := by omega
  simp [tbX, enMap, swp, Ent.map, AV.map, AV.mapL, Row.map, h0, h1, h2, g0, g1, g2, h3, g3]
theorem tab0_sw (X Y : Nat) (hX : 2 < X) (hY : 2 < Y) : enMap (swp X Y) (tabE []) = tabE [] := by
  have h0 : ¬ (0 : Nat) = X := by omega
  have h1 : ¬ (1 : Nat) = X := by omega
  have h2 : ¬ (2 : Nat) = X := by omega
  have g0 : ¬ (0 : Nat) = Y := by omega
  have g1 : ¬ (1 : Nat) = Y := by omega
  have g2 : ¬ (2 : Nat) = Y := by omega
  simp [tabE, enMap, swp, Ent.map, AV.map, AV.mapL, h0, h1, h2, g0, g1, g2]
theorem hash_00 {ps : List ByteArray} {r : ByteArray} (c : FnR Try.prog G 63 [.ptr 0 0 0 1, .int .u8 4, .lstS ps] [(0, .obj 58 (.agg [.mp 1, .mp 2, .nils])), (1, .mset (.strs [])), (2, .mset (.strs []))] (.str r) [(0, .obj 58 (.agg [.mp 1, .mp 2, .nils])), (1, .mset (.strs [])), (2, .mset (.strs []))]) : FnR Try.prog G 61 [.ptr 0 0 0 1, .lstS ps] [(0, .obj 58 (.agg [.mp 1, .mp 2, .nils])), (1, .mset (.strs [])), (2, .mset (.strs []))] (.str r) [(0, .obj 58 (.agg [.mp 1, .mp 2, .nils])), (1, .mset (.strs [])), (2, .mset (.strs []))] := by
  refine FnR.of_walk (m := 8) (n0 := 16) tt_ok Try.func61 rfl rfl (by simp) (by simp [nmH]) ?_
  rw [show Try.f61.results.toList = [.tmp 4] from rfl]
  refine W.seqK fun K hK => W.regionK tt_ok ?_
  simp only [exOps_nil, exOps_cons, exOp_eq, nx_eq, cur_eq, stepQ, ev, ofV, parT, putT, erA, inB, opt, ret, onQ, ap, true_and, Nat.reduceEqDiff, Nat.reduceLT, Nat.reduceAdd, Nat.zero_add, if_false, reduceCtorEq]
  refine hK _ ?_
  clear hK K
  refine W.seqK fun K hK => W.regionK tt_ok ?_
  simp only [exOps_cons, exOp_eq, exCall_eq, nx_eq, cur_eq, evL, stepQ, ev, ofV, lk, putT, erA, inB, opt, ret, onQ, ap, true_and, Nat.reduceEqDiff, Nat.reduceLT, Nat.reduceAdd, if_true, if_false, reduceCtorEq, Option.bind_some, Option.map_some]
  refine CallK.with [(0, .obj 58 (.agg [.mp 1, .mp 2, .nils])), (1, .mset (.strs [])), (2, .mset (.strs []))] [(0, .obj 58 (.agg [.mp 1, .mp 2, .nils])), (1, .mset (.strs [])), (2, .mset (.strs []))] _ _ c call63 (by simp only [AV.nmIn, bnd, req, ret, onQ, AV.isTup, isTupL, and_true, true_and, and_self, Bool.false_eq_true, List.append_nil, vw.vwL, vw, AV.free, Bool.or_self]; all_goals (and_intros <;> first | exact AV.subL_refl _ | omega | (simp [AV.sub, entsFree, Ent.free]; done) | rfl | (simp [AV.subL_refl]; done))) (by simp [leL, lk]) (by intro n hn; first | (left; revert hn; simp [Nm, lk]; done) | (right; revert hn; simp only [Nm, lk]; split <;> simp <;> omega) | (by_cases h1 : Nm [(0, .obj 58 (.agg [.mp 1, .mp 2, .nils])), (1, .mset (.strs [])), (2, .mset (.strs []))] n; exact .inl h1; right; revert hn h1; simp only [Nm, lk]; split <;> (try split) <;> (try split) <;> (try split) <;> (try simp) <;> (try omega))) (by simp [entsIn, Ent.nmIn, AV.nmIn, AV.nmInL, Nm, lk]) ?_
  simp only [callDel, exOps_nil, exOps_cons, exOp_eq, nx_eq, cur_eq, stepQ, ev, lk, putT, erA, inB, opt, ret, onQ, ap, up, er, true_and, Nat.reduceEqDiff, Nat.reduceLT, Nat.reduceAdd, if_true, if_false, reduceCtorEq, List.nil_append, List.cons_append, List.map_cons, List.map_nil, List.reverse_cons, List.reverse_nil]
  refine hK _ ?_
  clear hK K
  refine W.ret ?_
  simp only [fin_ret, finB, resQ, resV, leL, AV.nmIn, entsIn, lk, opt, bnd, req, ret, onQ, AV.isTup, and_true, true_and, and_self, Nat.reduceEqDiff, if_true, if_false, reduceCtorEq]
  simp [Nm, lk, Ent.nmIn, AV.nmIn, AV.nmInL]
theorem hash_01 {k k' : Nat} {a1 a2 b1 b2 : List (ByteArray × Kv)} {a3 b3 : List ByteArray} {ps : List ByteArray} {r : ByteArray} (c : FnR Try.prog G 63 [.ptr 0 0 0 1, .int .u8 4, .lstS ps] [(0, .obj 58 (.agg [.mp 1, .mp 2, .nils])), (1, .mset (.strs [])), (2, .mset (.strs []))] (.str r) [(0, .obj 58 (.agg [.mp 1, .mp 2, .sl 64 1 0 k'])), (1, .mset (.strs b1)), (2, .mset (.strs b2)), (64, .vec 9 (.strs b3))]) : FnR Try.prog G 61 [.ptr 0 0 0 1, .lstS ps] [(0, .obj 58 (.agg [.mp 1, .mp 2, .nils])), (1, .mset (.strs [])), (2, .mset (.strs []))] (.str r) [(0, .obj 58 (.agg [.mp 1, .mp 2, .sl 64 1 0 k'])), (1, .mset (.strs b1)), (2, .mset (.strs b2)), (64, .vec 9 (.strs b3))] := by
  refine FnR.of_walk (m := 8) (n0 := 16) tt_ok Try.func61 rfl rfl (by simp) (by simp [nmH]) ?_
  rw [show Try.f61.results.toList = [.tmp 4] from rfl]
  refine W.seqK fun K hK => W.regionK tt_ok ?_
  simp only [exOps_nil, exOps_cons, exOp_eq, nx_eq, cur_eq, stepQ, ev, ofV, parT, putT, erA, inB, opt, ret, onQ, ap, true_and, Nat.reduceEqDiff, Nat.reduceLT, Nat.reduceAdd, Nat.zero_add, if_false, reduceCtorEq]
  refine hK _ ?_
  clear hK K
  refine W.seqK fun K hK => W.regionK tt_ok ?_
  simp only [exOps_cons, exOp_eq, exCall_eq, nx_eq, cur_eq, evL, stepQ, ev, ofV, lk, putT, erA, inB, opt, ret, onQ, ap, true_and, Nat.reduceEqDiff, Nat.reduceLT, Nat.reduceAdd, if_true, if_false, reduceCtorEq, Option.bind_some, Option.map_some]
  refine CallK.with [(0, .obj 58 (.agg [.mp 1, .mp 2, .nils])), (1, .mset (.strs [])), (2, .mset (.strs []))] [(0, .obj 58 (.agg [.mp 1, .mp 2, .sl 64 1 0 k'])), (1, .mset (.strs b1)), (2, .mset (.strs b2)), (64, .vec 9 (.strs b3))] _ _ c call63 (by simp only [AV.nmIn, bnd, req, ret, onQ, AV.isTup, isTupL, and_true, true_and, and_self, Bool.false_eq_true, List.append_nil, vw.vwL, vw, AV.free, Bool.or_self]; all_goals (and_intros <;> first | exact AV.subL_refl _ | omega | (simp [AV.sub, entsFree, Ent.free, Row.free]; done) | rfl | (simp [AV.subL_refl]; done))) (by simp [leL, lk]) (by intro n hn; first | (left; revert hn; simp [Nm, lk]; done) | (right; revert hn; simp only [Nm, lk]; split <;> simp <;> omega) | (by_cases h1 : Nm [(0, .obj 58 (.agg [.mp 1, .mp 2, .nils])), (1, .mset (.strs [])), (2, .mset (.strs []))] n; exact .inl h1; right; revert hn h1; simp only [Nm, lk]; split <;> (try split) <;> (try split) <;> (try split) <;> (try simp) <;> (try omega))) (by simp [entsIn, Ent.nmIn, AV.nmIn, AV.nmInL, Nm, lk]) ?_
  simp only [callDel, exOps_nil, exOps_cons, exOp_eq, nx_eq, cur_eq, stepQ, ev, lk, putT, erA, inB, opt, ret, onQ, ap, up, er, true_and, Nat.reduceEqDiff, Nat.reduceLT, Nat.reduceAdd, if_true, if_false, reduceCtorEq, List.nil_append, List.cons_append, List.map_cons, List.map_nil, List.reverse_cons, List.reverse_nil]
  refine hK _ ?_
  clear hK K
  refine W.ret ?_
  simp only [fin_ret, finB, resQ, resV, leL, AV.nmIn, entsIn, lk, opt, bnd, req, ret, onQ, AV.isTup, and_true, true_and, and_self, Nat.reduceEqDiff, if_true, if_false, reduceCtorEq]
  simp [Nm, lk, Ent.nmIn, Row.nmIn, AV.nmIn, AV.nmInL]
theorem hash_11 {k k' : Nat} {a1 a2 b1 b2 : List (ByteArray × Kv)} {a3 b3 : List ByteArray} {ps : List ByteArray} {r : ByteArray} (c : FnR Try.prog G 63 [.ptr 0 0 0 1, .int .u8 4, .lstS ps] [(0, .obj 58 (.agg [.mp 1, .mp 2, .sl 3 1 0 k])), (1, .mset (.strs a1)), (2, .mset (.strs a2)), (3, .vec 9 (.strs a3))] (.str r) [(0, .obj 58 (.agg [.mp 1, .mp 2, .sl 64 1 0 k'])), (1, .mset (.strs b1)), (2, .mset (.strs b2)), (64, .vec 9 (.strs b3))]) : FnR Try.prog G 61 [.ptr 0 0 0 1, .lstS ps] [(0, .obj 58 (.agg [.mp 1, .mp 2, .sl 3 1 0 k])), (1, .mset (.strs a1)), (2, .mset (.strs a2)), (3, .vec 9 (.strs a3))] (.str r) [(0, .obj 58 (.agg [.mp 1, .mp 2, .sl 64 1 0 k'])), (1, .mset (.strs b1)), (2, .mset (.strs b2)), (64, .vec 9 (.strs b3))] := by
  refine FnR.of_walk (m := 8) (n0 := 16) tt_ok Try.func61 rfl rfl (by simp) (by simp [nmH]) ?_
  rw [show Try.f61.results.toList = [.tmp 4] from rfl]
  refine W.seqK fun K hK => W.regionK tt_ok ?_
  simp only [exOps_nil, exOps_cons, exOp_eq, nx_eq, cur_eq, stepQ, ev, ofV, parT, putT, erA, inB, opt, ret, onQ, ap, true_and, Nat.reduceEqDiff, Nat.reduceLT, Nat.reduceAdd, Nat.zero_add, if_false, reduceCtorEq]
  refine hK _ ?_
  clear hK K
  refine W.seqK fun K hK => W.regionK tt_ok ?_
  simp only [exOps_cons, exOp_eq, exCall_eq, nx_eq, cur_eq, evL, stepQ, ev, ofV, lk, putT, erA, inB, opt, ret, onQ, ap, true_and, Nat.reduceEqDiff, Nat.reduceLT, Nat.reduceAdd, if_true, if_false, reduceCtorEq, Option.bind_some, Option.map_some]
  refine CallK.with [(0, .obj 58 (.agg [.mp 1, .mp 2, .sl 3 1 0 k])), (1, .mset (.strs a1)), (2, .mset (.strs a2)), (3, .vec 9 (.strs a3))] [(0, .obj 58 (.agg [.mp 1, .mp 2, .sl 64 1 0 k'])), (1, .mset (.strs b1)), (2, .mset (.strs b2)), (64, .vec 9 (.strs b3))] _ _ c call63 (by simp only [AV.nmIn, bnd, req, ret, onQ, AV.isTup, isTupL, and_true, true_and, and_self, Bool.false_eq_true, List.append_nil, vw.vwL, vw, AV.free, Bool.or_self]; all_goals (and_intros <;> first | exact AV.subL_refl _ | omega | (simp [AV.sub, entsFree, Ent.free, Row.free]; done) | rfl | (simp [AV.subL_refl]; done))) (by simp [leL, lk]) (by intro n hn; first | (left; revert hn; simp [Nm, lk]; done) | (right; revert hn; simp only [Nm, lk]; split <;> simp <;> omega) | (by_cases h1 : Nm [(0, .obj 58 (.agg [.mp 1, .mp 2, .sl 3 1 0 k])), (1, .mset (.strs a1)), (2, .mset (.strs a2)), (3, .vec 9 (.strs a3))] n; exact .inl h1; right; revert hn h1; simp only [Nm, lk]; split <;> (try split) <;> (try split) <;> (try split) <;> (try simp) <;> (try omega))) (by simp [entsIn, Ent.nmIn, Row.nmIn, AV.nmIn, AV.nmInL, Nm, lk]) ?_
  simp only [callDel, exOps_nil, exOps_cons, exOp_eq, nx_eq, cur_eq, stepQ, ev, lk, putT, erA, inB, opt, ret, onQ, ap, up, er, true_and, Nat.reduceEqDiff, Nat.reduceLT, Nat.reduceAdd, if_true, if_false, reduceCtorEq, List.nil_append, List.cons_append, List.map_cons, List.map_nil, List.reverse_cons, List.reverse_nil]
  refine hK _ ?_
  clear hK K
  refine W.ret ?_
  simp only [fin_ret, finB, resQ, resV, leL, AV.nmIn, entsIn, lk, opt, bnd, req, ret, onQ, AV.isTup, and_true, true_and, and_self, Nat.reduceEqDiff, if_true, if_false, reduceCtorEq]
  simp [Nm, lk, Ent.nmIn, Row.nmIn, AV.nmIn, AV.nmInL]
theorem call61 : Callable Try.prog 61 := ⟨_, Try.func61, by kernel_rfl, by kernel_rfl⟩
end Go.Proofs.Ytbefcdgjainflaa
