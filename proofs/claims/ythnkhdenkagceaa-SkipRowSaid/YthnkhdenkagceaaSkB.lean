/- Skipped keys: copies, and what is left when some are taken out. -/
import Derived.Test.YthnkhdenkagceaaSkA
-- TT 3 4 9 28 33
set_option linter.unusedVariables false
set_option linter.unusedSimpArgs false
namespace Go.Proofs.Ythnkhdenkagceaa
open Sx
set_option maxRecDepth 100000
set_option maxHeartbeats 1000000
/-- A row of items. -/
def rw3 (l : List It) : Ent := .vec 33 (.avs 3 (l.map itV))
theorem nm_its (N : Nat → Prop) : ∀ l : List It, AV.nmInL N (l.map itV) = True
  | [] => eq_true trivial
  | x :: l => by rw [List.map_cons]; simp [AV.nmInL, nm_its N l, itV, AV.nmIn]
theorem ml_its (f : Nat → Nat) : ∀ l : List It, AV.mapL f (l.map itV) = l.map itV
  | [] => rfl
  | x :: l => by rw [List.map_cons]; simp [AV.mapL, ml_its f l, itV, AV.map]
theorem free_its : ∀ l : List It, AV.freeL (l.map itV) = true
  | [] => rfl
  | x :: l => by rw [List.map_cons]; simp [AV.freeL, free_its l, itV, AV.free]
theorem clone_nil : FnR Try.prog G 22 [.nils] [] .nils [] := by
  refine FnR.of_walk (m := 8) (n0 := 0) tt_ok Try.func22 rfl rfl (by simp) (by simp [nmH]) ?_
  rw [show Try.f22.results.toList = [.tmp 2] from rfl]
  refine W.seqK fun K hK => W.regionK tt_ok ?_
  simp only [exOps_nil, exOps_cons, exOp_eq, nx_eq, cur_eq, stepQ, ev, ofV, parT, putT, erA, inB, opt, ret, onQ, ap, true_and, Nat.reduceLT, Nat.zero_add, if_false, reduceCtorEq]
  refine hK _ ?_
  clear hK K
  refine W.seqK fun Kx hKx => ?_
  refine W.seqK fun K hK => W.regionK tt_ok ?_
  simp only [exOps_nil, exOps_cons, exOp_eq, nx_eq, cur_eq, stepQ, ev, ofV, lk, putT, erA, inB, opt, bnd, req, ret, onQ, ap, binG, eqOp, true_and, and_self, Nat.reduceEqDiff, Nat.reduceLT, Nat.reduceAdd, if_true, if_false, reduceCtorEq, tt_28]
  refine hK _ ?_
  clear hK K
  refine W.cond (b := true) (by simp only [ev, lk, Nat.reduceEqDiff, if_true, if_false, reduceCtorEq]) (fun _ => ?_) (fun h => absurd h (by simp))
  refine W.seqK fun K hK => W.regionK tt_ok ?_
  simp only [exOps_nil, exOps_cons, exOp_eq, nx_eq, cur_eq, stepQ, ev, ofV, putT, erA, inB, opt, ret, onQ, ap, true_and, Nat.reduceEqDiff, Nat.reduceLT, Nat.reduceAdd, if_true, if_false, reduceCtorEq]
  refine hK _ ?_
  clear hK K
  refine W.ret ?_
  simp only [fin_ret, finB, resQ, resV, leL, AV.nmIn, entsIn, lk, opt, bnd, req, ret, onQ, AV.isTup, thn_ret, and_self, Nat.reduceEqDiff, if_true, if_false, reduceCtorEq]
theorem clone_own0 (l : List It) (hl : l.length ≤ 1000000) : FnR Try.prog G 22 [.sl 0 3 0 l.length] [(0, rw3 l)] (.sl 1080 3 0 l.length) [(1080, rw3 l), (0, rw3 l)] := by
  have hlt : List.take l.length (List.drop 0 (l.map itV)) = l.map itV := by rw [List.drop_zero]; exact List.take_of_length_le (by simp)
  have hml : (l.map itV).length = l.length := List.length_map ..
  have hr : rw3 l = .vec 33 (.avs 3 (l.map itV)) := rfl
  rw [hr]
  refine FnR.of_walk (m := 8) (n0 := 1000) tt_ok Try.func22 rfl rfl (by simp) (by simp [nmH]) ?_
  rw [show Try.f22.results.toList = [.tmp 2] from rfl]
  refine W.seqK fun K hK => W.regionK tt_ok ?_
  simp only [exOps_nil, exOps_cons, exOp_eq, nx_eq, cur_eq, stepQ, ev, ofV, parT, putT, erA, inB, opt, ret, onQ, ap, true_and, Nat.reduceLT, Nat.reduceAdd, if_false, reduceCtorEq]
  refine hK _ ?_
  clear hK K
  refine W.seqK fun Kx hKx => ?_
  refine W.seqK fun K hK => W.regionK tt_ok ?_
  simp only [exOps_nil, exOps_cons, exOp_eq, nx_eq, cur_eq, stepQ, ev, ofV, lk, putT, erA, inB, opt, bnd, req, ret, onQ, ap, binG, eqOp, true_and, and_self, Nat.reduceEqDiff, Nat.reduceLT, Nat.reduceAdd, if_true, if_false, reduceCtorEq, tt_28]
  refine hK _ ?_
  clear hK K
  refine W.cond (b := false) (by simp only [ev, lk, Nat.reduceEqDiff, if_true, if_false, reduceCtorEq]) (fun h => absurd h (by simp)) (fun _ => W.skip ?_)
  simp only [thn_normal]
  refine hKx _ ?_
  refine W.seqK fun K hK => W.regionK tt_ok ?_
  simp only [exOps_nil, exOps_cons, exOp_eq, exCall_eq, nx_eq, cur_eq, evL, evP, stepQ, ev, lk, putT, erA, inB, opt, bnd, req, ret, onQ, ap, up, er, Kd.agg, comps, bltQ, bltV, appR, appQ, appV, srcQ, Row.len, Row.sz, Row.take, Row.drop, Row.app, Ent.row, bldA, bslQ, zeroCs, cellsRow, chunks, ones, and_true, true_and, and_self, or_false, Nat.reduceEqDiff, Nat.reduceLT, Nat.reduceAdd, Nat.reduceMul, Nat.le_refl, Nat.zero_le, Nat.add_zero, Nat.zero_add, if_true, if_false, cond_true, reduceCtorEq, Option.bind_some, Option.map_some, tt_28, tt_33, hlt, hml, List.replicate_zero, List.flatten_nil]
  refine ⟨rfl, ⟨by omega, by omega⟩, ?_⟩
  refine hK _ ?_
  clear hK K
  refine W.ret ?_
  simp only [fin_ret, finB, resQ, resV, leL, AV.nmIn, entsIn, lk, opt, bnd, req, ret, onQ, AV.isTup, and_true, true_and, and_self, Nat.reduceEqDiff, if_true, if_false, reduceCtorEq]
  simp [Nm, lk, Ent.nmIn, Row.nmIn, nm_its]
/-- Two names for two others. -/
theorem two_names {X Y m : Nat} (h : X ≠ Y) (hm : m ≠ 0) : swp (swp 0 X m) Y (swp 0 X 0) = X ∧ swp (swp 0 X m) Y (swp 0 X m) = Y := by
  unfold swp
  constructor <;> repeat' split
  all_goals omega
theorem clone_own (X Y : Nat) (h : X ≠ Y) (l : List It) (hl : l.length ≤ 1000000) : FnR Try.prog G 22 [.sl X 3 0 l.length] [(X, rw3 l)] (.sl Y 3 0 l.length) [(Y, rw3 l), (X, rw3 l)] := by
  obtain ⟨e1, e2⟩ := two_names (m := 1080) h (by omega)
  have h := ((clone_own0 l hl).swap 0 X).swap (swp 0 X 1080) Y
  simpa only [List.map_cons, List.map_nil, AV.map, enMap, rw3, Ent.map, Row.map, ml_its, e1, e2] using h
theorem call22 : Callable Try.prog 22 := ⟨_, Try.func22, by kernel_rfl, by kernel_rfl⟩
/-- A row in which those from i to j are gone, and as many empty ones are behind. -/
def zIt : It := ⟨.empty, 0, .empty⟩
def cutL (l : List It) (i j : Nat) : List It := l.take i ++ l.drop j ++ List.replicate (j - i) zIt
theorem cutL_len (l : List It) (i j : Nat) (h : i ≤ j) (hj : j ≤ l.length) : (cutL l i j).length = l.length := by simp [cutL]; omega
theorem cut_put (l : List It) (i j : Nat) (h : i ≤ j) (hj : j ≤ l.length) :
    putL (putL (l.map itV) i (((l.map itV).drop j).take (l.length - j))) (i + (l.length - j)) (List.replicate (l.length - (i + (l.length - j))) (itV zIt)) = (cutL l i j).map itV := by
  have e1 : ((l.map itV).drop j).take (l.length - j) = (l.drop j).map itV := by
    rw [← List.map_drop]; exact List.take_of_length_le (by simp)
  rw [e1]
  unfold putL
  simp only [List.length_map, List.length_drop, List.length_replicate]
  have e2 : (List.take i (List.map itV l) ++ List.map itV (List.drop j l)).length = i + (l.length - j) := by simp; omega
  have e3 : (List.take i (List.map itV l) ++ List.map itV (List.drop j l) ++ List.drop (i + (l.length - j)) (List.map itV l)).length = l.length := by simp; omega
  have e4 : List.drop (i + (l.length - j) + (l.length - (i + (l.length - j)))) (List.take i (List.map itV l) ++ List.map itV (List.drop j l) ++ List.drop (i + (l.length - j)) (List.map itV l)) = [] := List.drop_eq_nil_of_le (by omega)
  rw [List.take_left' e2, e4, List.append_nil, show l.length - (i + (l.length - j)) = j - i by omega]
  simp [cutL, List.map_take]
theorem cutL_self (l : List It) (i : Nat) : cutL l i i = l := by simp [cutL]
theorem delete_own (i j : Nat) (l : List It) (hl : l.length ≤ 1000000) (h : i ≤ j) (hj : j ≤ l.length) :
    FnR Try.prog G 25 [.sl 0 3 0 l.length, .int .i64 i, .int .i64 j] [(0, rw3 l)] (.sl 0 3 0 (l.length - (j - i))) [(0, rw3 (cutL l i j))] := by
  have hml : (l.map itV).length = l.length := List.length_map ..
  have hcp := cut_put l i j h hj
  have hpl : (putL (l.map itV) i (((l.map itV).drop j).take (l.length - j))).length = l.length := by simp [putL]; omega
  rw [itV, zIt] at hcp
  rw [rw3, rw3]
  refine FnR.of_walk (m := 33) (n0 := 1000) tt_ok Try.func25 rfl rfl (by simp) (by simp [nmH]) ?_
  rw [show Try.f25.results.toList = [.tmp 6] from rfl]
  refine W.seqK fun K hK => W.regionK tt_ok ?_
  simp only [exOps_nil, exOps_cons, exOp_eq, nx_eq, cur_eq, stepQ, ev, ofV, parT, putT, erA, inB, opt, ret, onQ, ap, true_and, Nat.reduceEqDiff, Nat.reduceLT, Nat.reduceAdd, Nat.zero_add, if_false, reduceCtorEq]
  refine hK _ ?_
  clear hK K
  refine W.seqK fun K hK => W.regionK tt_ok ?_
  simp only [exOps_nil, exOps_cons, exOp_eq, exCall_eq, nx_eq, cur_eq, evL, stepQ, ev, lk, putT, erA, inB, opt, bnd, req, ret, onQ, ap, bltQ, bltV, lenF, slM, bd, and_true, true_and, and_self, or_false, Nat.reduceEqDiff, Nat.reduceLT, Nat.reduceAdd, Int.toNat_natCast, Nat.le_refl, if_true, if_false, reduceCtorEq, List.getElem?_cons_zero, Option.bind_some, Option.map_some, tt_28, tt_33, Int.toNat_natCast]
  repeat (refine ⟨by omega, ?_⟩)
  refine hK _ ?_
  clear hK K
  refine W.seqK fun Kx hKx => ?_
  by_cases hij : i = j
  · subst hij
    refine W.seqK fun K hK => W.regionK tt_ok ?_
    simp only [exOps_nil, exOps_cons, exOp_eq, nx_eq, cur_eq, stepQ, ev, lk, putT, erA, inB, opt, bnd, req, ret, onQ, ap, binG, binF, intF, true_and, and_self, Nat.reduceEqDiff, Nat.reduceLT, Nat.reduceAdd, if_true, if_false, reduceCtorEq, beq_self_eq_true]
    refine hK _ ?_
    clear hK K
    refine W.cond (b := true) (by simp only [ev, lk, Nat.reduceEqDiff, if_true, if_false, reduceCtorEq]) (fun _ => ?_) (fun h => absurd h (by simp))
    refine W.seqK fun K hK => W.regionK tt_ok ?_
    simp only [exOps_nil, exOps_cons, exOp_eq, nx_eq, cur_eq, stepQ, ev, lk, putT, erA, inB, opt, ret, onQ, ap, true_and, Nat.reduceEqDiff, Nat.reduceLT, Nat.reduceAdd, if_true, if_false, reduceCtorEq]
    refine hK _ ?_
    clear hK K
    refine W.ret ?_
    simp only [fin_ret, finB, resQ, resV, leL, AV.nmIn, entsIn, lk, opt, bnd, req, ret, onQ, AV.isTup, thn_ret, and_true, true_and, and_self, Nat.reduceEqDiff, Nat.sub_self, if_true, if_false, reduceCtorEq]
    rw [cutL_self, Nat.sub_zero]
    simp [Nm, lk, Ent.nmIn, Row.nmIn, nm_its]
  · have hb : ((i : Int) == (j : Int)) = false := by rw [beq_eq_false_iff_ne]; omega
    refine W.seqK fun K hK => W.regionK tt_ok ?_
    simp only [exOps_nil, exOps_cons, exOp_eq, nx_eq, cur_eq, stepQ, ev, lk, putT, erA, inB, opt, bnd, req, ret, onQ, ap, binG, binF, intF, true_and, and_self, Nat.reduceEqDiff, Nat.reduceLT, Nat.reduceAdd, if_true, if_false, reduceCtorEq, hb]
    refine hK _ ?_
    clear hK K
    refine W.cond (b := false) (by simp only [ev, lk, Nat.reduceEqDiff, if_true, if_false, reduceCtorEq]) (fun h => absurd h (by simp)) (fun _ => W.skip ?_)
    simp only [thn_normal]
    refine hKx _ ?_
    refine W.seqK fun K hK => W.regionK tt_ok ?_
    simp only [exOps_nil, exOps_cons, exOp_eq, exCall_eq, nx_eq, cur_eq, evL, stepQ, ev, lk, putT, erA, inB, opt, bnd, req, ret, onQ, ap, bltQ, bltV, lenF, true_and, and_self, or_false, Nat.reduceEqDiff, Nat.reduceLT, Nat.reduceAdd, if_true, if_false, reduceCtorEq, List.getElem?_cons_zero, Option.bind_some, Option.map_some, tt_28]
    refine hK _ ?_
    clear hK K
    refine W.seqK fun K hK => W.drawK [⟨0, false, [], false⟩, ⟨0, false, [], false⟩, ⟨0, false, [0, 1], false⟩, ⟨0, false, [], false⟩, ⟨0, false, [], false⟩, ⟨0, false, [3, 4], false⟩, ⟨2, false, [0, 1, 2, 3, 4, 5], false⟩, ⟨0, false, [0, 1, 2, 3, 4, 5, 6], false⟩] mix tt_ok (by kernel_rfl) ?_
    simp only [exOp_eq, exCall_eq, exD_nil, exD_cons, nxD_eq, cur_eq, flI, ownB, evL, stepQ, ev, lk, putT, erA, inB, opt, bnd, req, ret, onQ, ap, up, er, bltQ, bltV, slF, appR, bd, bds, appQ, appV, srcQ, Row.len, Row.sz, Row.take, Row.drop, Row.app, Ent.row, and_true, true_and, or_false, Nat.reduceEqDiff, Nat.reduceLT, Nat.reduceAdd, Int.toNat_natCast, Nat.add_zero, Nat.zero_add, if_true, if_false, reduceCtorEq, Option.bind_some, Option.map_some, tt_28, tt_33, Int.toNat_natCast, hml, Nat.sub_zero]
    repeat (refine ⟨by omega, ?_⟩)
    refine hK _ ?_
    clear hK K
    refine W.seqK fun K hK => W.regionK tt_ok ?_
    simp only [exOps_nil, exOps_cons, exOp_eq, exCall_eq, nx_eq, cur_eq, evL, stepQ, ev, lk, putT, erA, inB, opt, bnd, req, ret, onQ, ap, up, er, bltQ, bltV, lenF, slF, clrQ, bd, and_true, true_and, and_self, or_false, Nat.reduceEqDiff, Nat.reduceLT, Nat.reduceAdd, Int.toNat_natCast, Nat.zero_add, if_true, if_false, reduceCtorEq, List.getElem?_cons_zero, Option.bind_some, Option.map_some, tt_28, tt_33, Int.toNat_natCast]
    rw [hcp, hpl]
    refine ⟨⟨by omega, by omega, by omega, by omega⟩, by omega, ?_⟩
    refine hK _ ?_
    clear hK K
    refine W.seqK fun K hK => W.regionK tt_ok ?_
    simp only [exOps_nil, exOps_cons, exOp_eq, nx_eq, cur_eq, stepQ, ev, lk, putT, erA, inB, opt, ret, onQ, ap, true_and, Nat.reduceEqDiff, Nat.reduceLT, Nat.reduceAdd, if_true, if_false, reduceCtorEq]
    refine hK _ ?_
    clear hK K
    refine W.ret ?_
    simp only [fin_ret, finB, resQ, resV, leL, AV.nmIn, entsIn, lk, opt, bnd, req, ret, onQ, AV.isTup, and_true, true_and, and_self, Nat.reduceEqDiff, if_true, if_false, reduceCtorEq]
    rw [show l.length - (j - i) = i + (l.length - j) by omega]
    simp [Nm, lk, Ent.nmIn, Row.nmIn, nm_its]
theorem call25 : Callable Try.prog 25 := ⟨_, Try.func25, by kernel_rfl, by kernel_rfl⟩
theorem delete_at (X : Nat) (i j : Nat) (l : List It) (hl : l.length ≤ 1000000) (h : i ≤ j) (hj : j ≤ l.length) :
    FnR Try.prog G 25 [.sl X 3 0 l.length, .int .i64 i, .int .i64 j] [(X, rw3 l)] (.sl X 3 0 (l.length - (j - i))) [(X, rw3 (cutL l i j))] := by
  have h := (delete_own i j l hl h hj).swap 0 X
  have e : swp 0 X 0 = X := by simp [swp]
  simpa only [List.map_cons, List.map_nil, AV.map, enMap, rw3, Ent.map, Row.map, ml_its, e] using h
end Go.Proofs.Ythnkhdenkagceaa
