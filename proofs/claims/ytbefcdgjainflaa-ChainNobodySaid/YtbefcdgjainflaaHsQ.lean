/- HKDF's other half. -/
import Derived.Test.YtbefcdgjainflaaHsP
-- TT 3 4 5 39 36 66 93 94 96 100 103
-- TOUCH 48 1
set_option linter.unusedVariables false
set_option linter.unusedSectionVars false
set_option linter.unusedSimpArgs false
namespace Go.Proofs.Ytbefcdgjainflaa
open Sx
variable [Inhabited Tabs]
set_option maxRecDepth 100000
set_option maxHeartbeats 4000000
theorem call45 : Callable Try.prog 45 := ⟨_, Try.func45, by kernel_rfl, by kernel_rfl⟩
/-- The n-th piece, and the first n pieces. -/
def eL (key info : List Int) : Nat → List Int
  | 0 => []
  | j + 1 => hmac key (eL key info j ++ (info ++ [IntKind.u8.wrap ((j : Int) + 1)]))
def eT (key info : List Int) : Nat → List Int
  | 0 => []
  | j + 1 => eT key info j ++ eL key info (j + 1)
theorem eL_le (key info : List Int) : ∀ j, (eL key info j).length ≤ 32
  | 0 => by simp [eL]
  | j + 1 => by rw [eL, hmac_len]; omega
theorem eL_len (key info : List Int) (j : Nat) : (eL key info (j + 1)).length = 32 := by rw [eL, hmac_len]
theorem eT_len (key info : List Int) : ∀ j, (eT key info j).length = 32 * j
  | 0 => rfl
  | j + 1 => by rw [eT, List.length_append, eT_len key info j, eL_len]; omega
def expn (key info : List Int) (n : Nat) : List Int := (eT key info ((n + 31) / 32)).take n
theorem expn_len (key info : List Int) (n : Nat) : (expn key info n).length = n := by
  rw [expn, List.length_take, eT_len]; omega
def oV (j : Nat) : AV := if j = 0 then .nils else .sl 1040 1 0 (32 * j)
def oE (key info : List Int) (j : Nat) : Ents := if j = 0 then [] else [(1040, .vec 5 (.ints .u8 (eT key info j)))]
def xS (key info : List Int) (n : Nat) (j : Nat) : St :=
  ⟨[(1, .lstI .u8 info), (2, .int .i64 (n : Int)), (3, .ptr 0 0 0 1), (7, .int .i64 0), (8, oV j), (9, .lstI .u8 (eL key info j)), (10, .int .u8 (IntKind.u8.wrap ((j : Int) + 1)))], oE key info j ++ [(0, .obj 36 (.agg [.ints .u8 32 key]))], 2048, 39⟩
theorem expand_bad (key info : List Int) (n : Int) (hk : key.length = 32) (hn : n < 0 ∨ 8160 < n) :
    FnR Try.prog G 44 [.agg [.ints .u8 32 key], .lstI .u8 info, .int .i64 n] [] (.tup [.nils, .int .i64 2]) [] := by
  refine FnR.of_walkT (m := 39) tt_ok Try.func44 rfl rfl (by simp) ?_
  rw [show Try.f44.results.toList = [.tmp 6, .tmp 7] from rfl]
  refine W.seqK fun K hK => W.regionK tt_ok ?_
  simp only [exOps_nil, exOps_cons, exOp_eq, nx_eq, cur_eq, stepQ, ev, ofV, lk, parT, putT, erA, inB, opt, req, ret, onQ, ap, up, er, AV.isTup, true_and, and_self, Nat.reduceEqDiff, Nat.reduceLT, Nat.reduceAdd, Nat.zero_add, if_true, if_false, reduceCtorEq]
  refine hK _ ?_
  clear hK K
  refine W.seqK fun Ky hKy => ?_
  by_cases h1 : n < 0
  · refine W.seqK fun K hK => W.regionK tt_ok ?_
    simp only [↓gTF, ↓nTF, decide_true, exOps_nil, exOps_cons, exOp_eq, nx_eq, cur_eq, stepQ, ev, ofV, lk, putT, erA, inB, opt, bnd, req, ret, onQ, ap, binI, binG, binF, intF, pickF, true_and, and_self, Nat.reduceEqDiff, Nat.reduceLT, Nat.reduceAdd, if_true, if_false, reduceCtorEq, List.getElem?_cons_zero, List.getElem?_cons_succ, Option.bind_some, h1]
    refine hK _ ?_
    clear hK K
    refine W.cond (b := true) (by simp only [ev, lk, Nat.reduceEqDiff, if_true, if_false, reduceCtorEq]) (fun _ => ?_) (fun h => absurd h (by simp))
    refine W.seqK fun K hK => W.regionK tt_ok ?_
    simp only [exOps_nil, exOps_cons, exOp_eq, nx_eq, cur_eq, stepQ, ev, ofV, putT, erA, inB, opt, ret, onQ, ap, true_and, Nat.reduceEqDiff, Nat.reduceLT, Nat.reduceAdd, if_true, if_false, reduceCtorEq]
    refine hK _ ?_
    clear hK K
    refine W.ret ?_
    simp only [finT_ret, finTB, resQ, lk, opt, bnd, req, ret, onQ, AV.isTup, thn_ret, true_and, and_self, Nat.reduceEqDiff, if_true, if_false, reduceCtorEq, ne_eq]
    simp [vw, vw.vwL, bnd, req, ret, AV.nmIn]
  · have h2 : 8160 < n := by omega
    refine W.seqK fun K hK => W.regionK tt_ok ?_
    simp only [↓gFF, ↓nFF, decide_true, decide_false, exOps_nil, exOps_cons, exOp_eq, nx_eq, cur_eq, stepQ, ev, ofV, lk, putT, erA, inB, opt, bnd, req, ret, onQ, ap, binI, binG, binF, intF, pickF, and_true, true_and, and_self, Nat.reduceEqDiff, Nat.reduceLT, Nat.reduceAdd, if_true, if_false, reduceCtorEq, List.getElem?_cons_zero, List.getElem?_cons_succ, Option.bind_some, h1, h2]
    refine hK _ ?_
    clear hK K
    refine W.cond (b := true) (by simp only [ev, lk, Nat.reduceEqDiff, if_true, if_false, reduceCtorEq]) (fun _ => ?_) (fun h => absurd h (by simp))
    refine W.seqK fun K hK => W.regionK tt_ok ?_
    simp only [exOps_nil, exOps_cons, exOp_eq, nx_eq, cur_eq, stepQ, ev, ofV, putT, erA, inB, opt, ret, onQ, ap, true_and, Nat.reduceEqDiff, Nat.reduceLT, Nat.reduceAdd, if_true, if_false, reduceCtorEq]
    refine hK _ ?_
    clear hK K
    refine W.ret ?_
    simp only [finT_ret, finTB, resQ, lk, opt, bnd, req, ret, onQ, AV.isTup, thn_ret, true_and, and_self, Nat.reduceEqDiff, if_true, if_false, reduceCtorEq, ne_eq]
    simp [vw, vw.vwL, bnd, req, ret, AV.nmIn]
theorem expand_own (key info : List Int) (n : Nat) (hk : key.length = 32) (hi : info.length ≤ 10000) (hn : n ≤ 8160) :
    FnR Try.prog G 44 [.agg [.ints .u8 32 key], .lstI .u8 info, .int .i64 (n : Int)] [] (.tup [if n = 0 then .nils else .lstI .u8 (expn key info n), .int .i64 0]) [] := by
  have h1 : ¬ (n : Int) < 0 := by omega
  have h2 : ¬ 8160 < (n : Int) := by omega
  refine FnR.of_walkT (m := 39) tt_ok Try.func44 rfl rfl (by simp) ?_
  rw [show Try.f44.results.toList = [.tmp 6, .tmp 7] from rfl]
  refine W.seqK fun K hK => W.regionK tt_ok ?_
  simp only [exOps_nil, exOps_cons, exOp_eq, nx_eq, cur_eq, stepQ, ev, ofV, lk, parT, putT, erA, inB, opt, req, ret, onQ, ap, up, er, AV.isTup, true_and, and_self, Nat.reduceEqDiff, Nat.reduceLT, Nat.reduceAdd, Nat.zero_add, if_true, if_false, reduceCtorEq]
  refine hK _ ?_
  clear hK K
  refine W.seqK fun Ky hKy => ?_
  refine W.seqK fun K hK => W.regionK tt_ok ?_
  simp only [↓gFF, ↓nFF, decide_false, exOps_nil, exOps_cons, exOp_eq, nx_eq, cur_eq, stepQ, ev, ofV, lk, putT, erA, inB, opt, bnd, req, ret, onQ, ap, binI, binG, binF, intF, pickF, and_true, true_and, and_self, Nat.reduceEqDiff, Nat.reduceLT, Nat.reduceAdd, if_true, if_false, reduceCtorEq, List.getElem?_cons_zero, List.getElem?_cons_succ, Option.bind_some, h1, h2]
  refine hK _ ?_
  clear hK K
  refine W.cond (b := false) (by simp only [ev, lk, Nat.reduceEqDiff, if_true, if_false, reduceCtorEq]) (fun h => absurd h (by simp)) (fun _ => W.skip ?_)
  simp only [thn_normal]
  refine hKy _ ?_
  refine W.seqK fun K hK => W.regionK tt_ok ?_
  simp only [exOps_nil, exOps_cons, exOp_eq, nx_eq, cur_eq, stepQ, ev, ofV, putT, erA, inB, opt, ret, onQ, ap, true_and, Nat.reduceEqDiff, Nat.reduceLT, Nat.reduceAdd, if_false, reduceCtorEq]
  refine hK _ ?_
  clear hK K
  refine W.seqK fun Kx hKx => ?_
  refine W.seqK fun K hK => W.regionK tt_ok ?_
  simp only [exOps_nil, exOps_cons, exOp_eq, nx_eq, cur_eq, stepQ, ev, ofV, putT, erA, inB, opt, ret, onQ, ap, true_and, Nat.reduceEqDiff, Nat.reduceLT, Nat.reduceAdd, if_false, reduceCtorEq]
  refine hK _ ?_
  clear hK K
  refine W.blockK ?_
  refine W.loopF (fun j : Nat => j ≤ (n + 31) / 32) (xS key info n) (fun j => (n + 31) / 32 - j) 0 (by simp) (by simp [xS, oV, oE, eL, show IntKind.u8.wrap 1 = 1 from by rw [IntKind.wrap_u8]; rfl, wkF, leF, leFE, fzN, entSub, AV.sub, AV.subL, vw, vw.vwL, onQ, opt, bnd, req, ret, lk, Nm, AV.isTup, AV.nmIn, AV.nmInL, nmE, Ent.nmIn]) ?_
  intro j hj K3 hK3
  have hw8 : ∀ x : Int, IntKind.u8.wrap (IntKind.u8.wrap x + 1) = IntKind.u8.wrap (x + 1) := fun x => by simp only [IntKind.wrap_u8]; omega
  have hkt : List.take 32 key = key := List.take_of_length_le (by omega)
  by_cases hlt : j < (n + 31) / 32
  · have hLl := eL_le key info j
    have hL1 := eL_len key info j
    have hTl := eT_len key info j
    have hT1 : eT key info (j + 1) = eT key info j ++ eL key info (j + 1) := rfl
    have hLe : eL key info (j + 1) = hmac key (eL key info j ++ (info ++ [IntKind.u8.wrap ((j : Int) + 1)])) := rfl
    have cc := concatL_at 2208 [eL key info j, info, [IntKind.u8.wrap ((j : Int) + 1)]] (by simp) (by simp; omega) (by simp; omega)
    have cm := macSum_fn key (eL key info j ++ (info ++ [IntKind.u8.wrap ((j : Int) + 1)])) (by omega) (by simp; omega)
    rw [← hLe] at cm
    have hfl : [eL key info j, info, [IntKind.u8.wrap ((j : Int) + 1)]].flatten = eL key info j ++ (info ++ [IntKind.u8.wrap ((j : Int) + 1)]) := by simp
    rw [hfl] at cc
    simp only [List.map_cons, List.map_nil] at cc
    have hBd : ∀ B : List Int, List.take B.length (List.drop 0 B) = B := fun B => by rw [List.drop_zero, List.take_length]
    have hkd : List.take 32 (List.drop 0 key) = key := by rw [List.drop_zero]; exact hkt
    generalize hL : eL key info (j + 1) = L1 at *
    generalize eL key info j ++ (info ++ [IntKind.u8.wrap ((j : Int) + 1)]) = B at *
    have cm : FnR Try.prog G 47 [.lstI .u8 (List.take 32 (List.drop 0 key)), .lstI .u8 (List.take B.length (List.drop 0 B))] [] (.agg [.ints .u8 32 L1]) [] := by rw [hkd, hBd]; exact cm
    have hLt : List.take 32 L1 = L1 := List.take_of_length_le (by omega)
    have hLd : List.take 32 (List.drop 0 L1) = L1 := by rw [List.drop_zero]; exact List.take_of_length_le (by omega)
    by_cases hj0 : j = 0
    · subst hj0
      have c1 : (0 : Int) < n := by omega
      simp only [xS, oV, oE, if_true, List.nil_append]
      refine W.seqK fun K0 hK0 => ?_
      refine W.seqK fun K hK => W.regionK tt_ok ?_
      simp only [decide_true, exOps_nil, exOps_cons, exOp_eq, exCall_eq, nx_eq, cur_eq, evL, stepQ, ev, lk, putT, erA, inB, opt, bnd, req, ret, onQ, ap, binI, binG, binF, intF, bltQ, bltV, lenF, true_and, and_self, or_false, Nat.reduceEqDiff, Nat.reduceLT, Nat.reduceAdd, if_true, if_false, List.getElem?_cons_zero, Option.bind_some, Option.map_some, tt_39, c1]
      refine hK _ ?_
      clear hK K
      refine W.cond (b := true) (by simp only [ev, lk, Nat.reduceEqDiff, if_true, if_false]) (fun _ => W.skip ?_) (fun h => absurd h (by simp))
      rw [thn_normal]
      refine hK0 _ ?_
      clear hK0 K0
      refine W.seqK fun K hK => W.blockK ?_
      refine W.seqK fun K hK => W.drawK [⟨0, true, [], false⟩, ⟨0, false, [], false⟩, ⟨0, false, [], false⟩, ⟨0, false, [], false⟩, ⟨1, true, [3], false⟩, ⟨1, true, [1, 2, 3, 4], false⟩, ⟨1, true, [1, 2, 3, 4, 5], false⟩, ⟨0, true, [0, 1, 2, 3, 4, 5, 6], false⟩, ⟨1, true, [], false⟩, ⟨2, false, [0, 1, 2, 3, 4, 5, 6, 7, 8], false⟩] mix tt_ok (by kernel_rfl) ?_
      simp only [decide_true, decide_false, Bool.or_true, Bool.or_false, List.contains_cons, List.contains_nil, Nat.reduceBEq, exOp_eq, exCall_eq, exD_cons, nxD_eq, cur_eq, flI, flE, ownB, ownL, evL, evP, stepQ, ev, lk, putT, erA, inB, opt, bnd, req, ret, onQ, ap, up, er, AV.isTup, AV.isAgg, intsOf, Kd.agg, comps, szL, csize, takeI, takeC, dropC, stC, stS, slF, bd, bds, Row.len, Row.sz, bldA, bslQ, zeroCs, cellsRow, chunks, ones, and_true, true_and, and_self, and_false, Nat.reduceEqDiff, Nat.reduceLT, Nat.reduceLeDiff, Nat.reduceAdd, Nat.reduceSub, Nat.reduceMul, Nat.reduceDiv, Nat.sub_self, Nat.le_refl, Nat.add_zero, Nat.zero_add, if_true, if_false, cond_true, cond_false, Bool.false_eq_true, reduceCtorEq, Option.bind_some, Option.map_some, List.append_nil, List.nil_append, List.cons_append, tt_5, tt_39, tt_36, tt_100, lit1, lit3, beq_self_eq_true, Bool.and_self, List.flatten_cons, List.flatten_nil, List.set_cons_zero, List.length_cons, List.length_nil]
      refine CallK.with [] [(2208, .vec 5 (.ints .u8 B))] _ _ cc call48 (by simp only [Bool.or_false, AV.nmIn, lk, opt, bnd, req, ret, onQ, AV.isTup, isTupL, Ent.row, and_true, true_and, and_self, Nat.reduceEqDiff, Nat.zero_add, if_true, if_false, reduceCtorEq, forall_const, List.append_nil, vw.vwL, vw, viewR, viewL, viewEL, viewE, viewC, AV.free, Ent.row, Bool.or_self]; all_goals (and_intros <;> first | exact AV.subL_refl _ | omega | (simp [AV.sub, entsFree, Ent.free, Row.free]; done) | rfl | (simp [AV.subL_refl]; done))) (by simp [leL]) (by intro n hn; first | (left; revert hn; simp [Nm, lk]; done) | (right; revert hn; simp only [Nm, lk]; split <;> simp <;> omega) | (by_cases h1 : Nm [] n; exact .inl h1; right; revert hn h1; simp only [Nm, lk]; split <;> (try split) <;> (try split) <;> (try split) <;> (try simp) <;> (try omega))) (by simp [entsIn]) ?_
      simp only [callDel, decide_true, decide_false, Bool.or_true, Bool.or_false, List.contains_cons, List.contains_nil, Nat.reduceBEq, exOp_eq, exCall_eq, exD_cons, nxD_eq, flI, flE, ownB, ownL, evL, ev, lk, putT, erA, inB, ap, up, er, true_and, and_self, Nat.reduceEqDiff, Nat.reduceLT, Nat.reduceAdd, Nat.reduceSub, Nat.reduceDiv, Nat.le_refl, if_true, if_false, reduceCtorEq, Option.bind_some, Option.map_some, List.nil_append, List.map_cons, List.map_nil, List.reverse_cons, List.reverse_nil]
      refine CallK.pure _ _ cm call47 (by simp only [Bool.or_false, lk, opt, bnd, req, ret, onQ, AV.isTup, isTupL, Ent.row, and_true, true_and, and_self, Nat.reduceEqDiff, Nat.le_refl, Nat.zero_add, if_true, if_false, reduceCtorEq, forall_const, List.append_nil, vw.vwL, vw, viewR, AV.free, AV.freeL, Ent.row, Bool.or_self]; all_goals (and_intros <;> first | exact AV.subL_refl _ | omega | (simp [AV.sub]; done) | rfl | (simp [AV.subL_refl]; done) | (simp; exact AV.subL_refl _))) ?_
      simp only [decide_true, decide_false, Bool.or_false, List.contains_nil, exOp_eq, exD_nil, exD_cons, nxD_eq, cur_eq, flI, flE, ownB, ownL, stepQ, ev, lk, putT, erA, inB, opt, bnd, req, ret, onQ, ap, up, er, AV.isAgg, Kd.agg, comps, szL, csize, takeI, takeC, dropC, stP, stE, stC, stS, true_and, and_self, Nat.reduceEqDiff, Nat.reduceLT, Nat.reduceLeDiff, Nat.reduceAdd, Nat.reduceSub, Nat.reduceDiv, Nat.sub_self, Nat.le_refl, Nat.add_zero, Nat.zero_add, if_true, if_false, Bool.false_eq_true, reduceCtorEq, Option.bind_some, Option.map_some, List.append_nil, List.nil_append, tt_36]
      repeat (refine ⟨by omega, ?_⟩)
      refine hK _ ?_
      clear hK K
      refine W.seqK fun K hK => W.regionK tt_ok ?_
      simp only [exOps_nil, exOps_cons, exOp_eq, nx_eq, cur_eq, stepQ, ev, lk, putT, erA, inB, opt, bnd, req, ret, onQ, ap, comps, szL, csize, slF, bd, bds, true_and, and_self, Nat.reduceEqDiff, Nat.reduceLT, Nat.reduceLeDiff, Nat.reduceAdd, Nat.reduceSub, Nat.reduceMul, Nat.add_zero, if_true, if_false, reduceCtorEq, Option.bind_some, Option.map_some, tt_5, tt_36]
      refine hK _ ?_
      clear hK K
      refine W.region tt_ok ?_
      simp only [exOps_nil, exOps_cons, exOp_eq, exCall_eq, nx_eq, cur_eq, curV_eq, evL, stepQ, ev, lk, putT, erA, inB, opt, bnd, req, ret, onQ, ap, up, er, bltQ, bltV, appQ, appV, srcQ, Row.len, Row.sz, Row.take, Row.drop, Ent.row, Row.lst, thn_normal, inb_normal, true_and, and_self, Nat.reduceEqDiff, Nat.reduceLT, Nat.reduceLeDiff, Nat.reduceAdd, Nat.reduceMul, Nat.le_refl, Nat.zero_add, if_true, if_false, reduceCtorEq, ne_eq, not_false_eq_true, Option.bind_some, Option.map_some, tt_5, tt_39, hLd, hL1]
      refine Or.inl (hK _ ?_)
      refine W.freeze ⟨[(1, .lstI .u8 info), (2, .int .i64 (n : Int)), (3, .ptr 0 0 0 1), (7, .int .i64 0), (8, .sl 2336 1 0 32), (9, .lstI .u8 L1), (10, .int .u8 (IntKind.u8.wrap (((0 : Nat) : Int) + 1)))], [(2336, .vec 5 (.ints .u8 L1)), (0, .obj 36 (.agg [.ints .u8 32 key]))], 4096, 39⟩ (by simp [wkF, leF, leFE, fzN, fzR, entSub, AV.sub, AV.subL, vw, vw.vwL, viewR, onQ, opt, bnd, req, ret, lk, Nm, Ent.row, AV.isTup, AV.nmIn, AV.nmInL, nmE, Ent.nmIn, Row.nmIn, hL1, hLt]) ?_
      refine W.swap 2336 1040 (by simp [Nm, lk]) ?_
      simp only [St.swap, tmMap, enMap, swp, AV.map, AV.mapL, Ent.map, Row.map, Nat.reduceEqDiff, if_true, if_false]
      refine W.region tt_ok ?_
      simp only [exOps_nil, exOps_cons, exOp_eq, nx_eq, cur_eq, stepQ, ev, ofV, lk, putT, erA, inB, opt, bnd, req, ret, onQ, ap, binI, binG, binF, intF, thn_normal, true_and, and_self, Nat.reduceEqDiff, Nat.reduceLT, Nat.reduceAdd, if_true, if_false]
      refine hK3 _ (0 + 1) (by omega) (by omega) ?_
      simp [xS, oV, oE, wkF, leF, leFE, fzN, fzR, entSub, AV.sub, AV.subL, vw, vw.vwL, onQ, opt, bnd, req, ret, lk, Nm, AV.isTup, AV.nmIn, AV.nmInL, nmE, Ent.nmIn, Row.nmIn, hL, hw8, eT]
    · have c1 : ((32 * j : Nat) : Int) < n := by omega
      simp only [xS, oV, oE, if_neg hj0, List.cons_append, List.nil_append]
      have hTt : List.take (32 * j) (eT key info j) = eT key info j := List.take_of_length_le (by omega)
      refine W.seqK fun K0 hK0 => ?_
      refine W.seqK fun K hK => W.regionK tt_ok ?_
      simp only [decide_true, exOps_nil, exOps_cons, exOp_eq, exCall_eq, nx_eq, cur_eq, evL, stepQ, ev, lk, putT, erA, inB, opt, bnd, req, ret, onQ, ap, binI, binG, binF, intF, bltQ, bltV, lenF, true_and, and_self, or_false, Nat.reduceEqDiff, Nat.reduceLT, Nat.reduceAdd, if_true, if_false, List.getElem?_cons_zero, Option.bind_some, Option.map_some, tt_39, c1]
      refine hK _ ?_
      clear hK K
      refine W.cond (b := true) (by simp only [ev, lk, Nat.reduceEqDiff, if_true, if_false]) (fun _ => W.skip ?_) (fun h => absurd h (by simp))
      rw [thn_normal]
      refine hK0 _ ?_
      clear hK0 K0
      refine W.seqK fun K hK => W.blockK ?_
      refine W.seqK fun K hK => W.drawK [⟨0, true, [], false⟩, ⟨0, false, [], false⟩, ⟨0, false, [], false⟩, ⟨0, false, [], false⟩, ⟨1, true, [3], false⟩, ⟨1, true, [1, 2, 3, 4], false⟩, ⟨1, true, [1, 2, 3, 4, 5], false⟩, ⟨0, true, [0, 1, 2, 3, 4, 5, 6], false⟩, ⟨1, true, [], false⟩, ⟨2, false, [0, 1, 2, 3, 4, 5, 6, 7, 8], false⟩] mix tt_ok (by kernel_rfl) ?_
      simp only [decide_true, decide_false, Bool.or_true, Bool.or_false, List.contains_cons, List.contains_nil, Nat.reduceBEq, exOp_eq, exCall_eq, exD_cons, nxD_eq, cur_eq, flI, flE, ownB, ownL, evL, evP, stepQ, ev, lk, putT, erA, inB, opt, bnd, req, ret, onQ, ap, up, er, AV.isTup, AV.isAgg, intsOf, Kd.agg, comps, szL, csize, takeI, takeC, dropC, stC, stS, slF, bd, bds, Row.len, Row.sz, bldA, bslQ, zeroCs, cellsRow, chunks, ones, and_true, true_and, and_self, and_false, Nat.reduceEqDiff, Nat.reduceLT, Nat.reduceLeDiff, Nat.reduceAdd, Nat.reduceSub, Nat.reduceMul, Nat.reduceDiv, Nat.sub_self, Nat.le_refl, Nat.add_zero, Nat.zero_add, if_true, if_false, cond_true, cond_false, Bool.false_eq_true, reduceCtorEq, Option.bind_some, Option.map_some, List.append_nil, List.nil_append, List.cons_append, tt_5, tt_39, tt_36, tt_100, lit1, lit3, beq_self_eq_true, Bool.and_self, List.flatten_cons, List.flatten_nil, List.set_cons_zero, List.length_cons, List.length_nil]
      refine CallK.with [] [(2208, .vec 5 (.ints .u8 B))] _ _ cc call48 (by simp only [Bool.or_false, AV.nmIn, lk, opt, bnd, req, ret, onQ, AV.isTup, isTupL, Ent.row, and_true, true_and, and_self, Nat.reduceEqDiff, Nat.zero_add, if_true, if_false, reduceCtorEq, forall_const, List.append_nil, vw.vwL, vw, viewR, viewL, viewEL, viewE, viewC, AV.free, Ent.row, Bool.or_self]; all_goals (and_intros <;> first | exact AV.subL_refl _ | omega | (simp [AV.sub, entsFree, Ent.free, Row.free]; done) | rfl | (simp [AV.subL_refl]; done))) (by simp [leL]) (by intro n hn; first | (left; revert hn; simp [Nm, lk]; done) | (right; revert hn; simp only [Nm, lk]; split <;> simp <;> omega) | (by_cases h1 : Nm [] n; exact .inl h1; right; revert hn h1; simp only [Nm, lk]; split <;> (try split) <;> (try split) <;> (try split) <;> (try simp) <;> (try omega))) (by simp [entsIn]) ?_
      simp only [callDel, decide_true, decide_false, Bool.or_true, Bool.or_false, List.contains_cons, List.contains_nil, Nat.reduceBEq, exOp_eq, exCall_eq, exD_cons, nxD_eq, flI, flE, ownB, ownL, evL, ev, lk, putT, erA, inB, ap, up, er, true_and, and_self, Nat.reduceEqDiff, Nat.reduceLT, Nat.reduceAdd, Nat.reduceSub, Nat.reduceDiv, Nat.le_refl, if_true, if_false, reduceCtorEq, Option.bind_some, Option.map_some, List.nil_append, List.map_cons, List.map_nil, List.reverse_cons, List.reverse_nil]
      refine CallK.pure _ _ cm call47 (by simp only [Bool.or_false, lk, opt, bnd, req, ret, onQ, AV.isTup, isTupL, Ent.row, and_true, true_and, and_self, Nat.reduceEqDiff, Nat.le_refl, Nat.zero_add, if_true, if_false, reduceCtorEq, forall_const, List.append_nil, vw.vwL, vw, viewR, AV.free, AV.freeL, Ent.row, Bool.or_self]; all_goals (and_intros <;> first | exact AV.subL_refl _ | omega | (simp [AV.sub]; done) | rfl | (simp [AV.subL_refl]; done) | (simp; exact AV.subL_refl _))) ?_
      simp only [decide_true, decide_false, Bool.or_false, List.contains_nil, exOp_eq, exD_nil, exD_cons, nxD_eq, cur_eq, flI, flE, ownB, ownL, stepQ, ev, lk, putT, erA, inB, opt, bnd, req, ret, onQ, ap, up, er, AV.isAgg, Kd.agg, comps, szL, csize, takeI, takeC, dropC, stP, stE, stC, stS, true_and, and_self, Nat.reduceEqDiff, Nat.reduceLT, Nat.reduceLeDiff, Nat.reduceAdd, Nat.reduceSub, Nat.reduceDiv, Nat.sub_self, Nat.le_refl, Nat.add_zero, Nat.zero_add, if_true, if_false, Bool.false_eq_true, reduceCtorEq, Option.bind_some, Option.map_some, List.append_nil, List.nil_append, tt_36]
      repeat (refine ⟨by omega, ?_⟩)
      refine hK _ ?_
      clear hK K
      refine W.seqK fun K hK => W.regionK tt_ok ?_
      simp only [exOps_nil, exOps_cons, exOp_eq, nx_eq, cur_eq, stepQ, ev, lk, putT, erA, inB, opt, bnd, req, ret, onQ, ap, comps, szL, csize, slF, bd, bds, true_and, and_self, Nat.reduceEqDiff, Nat.reduceLT, Nat.reduceLeDiff, Nat.reduceAdd, Nat.reduceSub, Nat.reduceMul, Nat.add_zero, if_true, if_false, reduceCtorEq, Option.bind_some, Option.map_some, tt_5, tt_36]
      refine hK _ ?_
      clear hK K
      refine W.region tt_ok ?_
      simp only [exOps_nil, exOps_cons, exOp_eq, exCall_eq, nx_eq, cur_eq, evL, stepQ, ev, lk, putT, erA, inB, opt, bnd, req, ret, onQ, ap, up, er, bltQ, bltV, appR, appQ, appV, srcQ, Row.len, Row.sz, Row.take, Row.drop, Row.app, Ent.row, thn_normal, inb_normal, and_true, true_and, and_self, or_false, Nat.reduceEqDiff, Nat.reduceLT, Nat.reduceLeDiff, Nat.reduceAdd, Nat.le_refl, Nat.zero_add, if_true, if_false, reduceCtorEq, Option.bind_some, Option.map_some, tt_5, tt_39, hLd, hL1, hTt]
      refine ⟨by omega, ?_⟩
      refine hK _ ?_
      refine W.freeze ⟨[(1, .lstI .u8 info), (2, .int .i64 (n : Int)), (3, .ptr 0 0 0 1), (7, .int .i64 0), (8, .sl 2336 1 0 (32 * j + 32)), (9, .lstI .u8 L1), (10, .int .u8 (IntKind.u8.wrap ((j : Int) + 1)))], [(2336, .vec 5 (.ints .u8 (eT key info j ++ L1))), (0, .obj 36 (.agg [.ints .u8 32 key]))], 4096, 39⟩ (by simp [wkF, leF, leFE, fzN, fzR, entSub, AV.sub, AV.subL, vw, vw.vwL, viewR, onQ, opt, bnd, req, ret, lk, Nm, Ent.row, AV.isTup, AV.nmIn, AV.nmInL, nmE, Ent.nmIn, Row.nmIn, hL1, hLt]) ?_
      refine W.swap 2336 1040 (by simp [Nm, lk]) ?_
      simp only [St.swap, tmMap, enMap, swp, AV.map, AV.mapL, Ent.map, Row.map, Nat.reduceEqDiff, if_true, if_false]
      refine W.region tt_ok ?_
      simp only [exOps_nil, exOps_cons, exOp_eq, nx_eq, cur_eq, stepQ, ev, ofV, lk, putT, erA, inB, opt, bnd, req, ret, onQ, ap, binI, binG, binF, intF, thn_normal, true_and, and_self, Nat.reduceEqDiff, Nat.reduceLT, Nat.reduceAdd, if_true, if_false]
      refine hK3 _ (j + 1) (by omega) (by omega) ?_
      simp [xS, oV, oE, wkF, leF, leFE, fzN, fzR, entSub, AV.sub, AV.subL, vw, vw.vwL, onQ, opt, bnd, req, ret, lk, Nm, AV.isTup, AV.nmIn, AV.nmInL, nmE, Ent.nmIn, Row.nmIn, hT1, hL, hw8, Nat.mul_add]
  have hj' : j = (n + 31) / 32 := by omega
  subst hj'
  by_cases hn0 : n = 0
  · subst hn0
    have c1 : ¬ (0 : Int) < ((0 : Nat) : Int) := by omega
    simp only [xS, oV, oE, show (0 + 31) / 32 = 0 from rfl, if_true, List.nil_append]
    refine W.seqK fun K0 hK0 => ?_
    refine W.seqK fun K hK => W.regionK tt_ok ?_
    simp only [decide_false, exOps_nil, exOps_cons, exOp_eq, exCall_eq, nx_eq, cur_eq, evL, stepQ, ev, lk, putT, erA, inB, opt, bnd, req, ret, onQ, ap, binI, binG, binF, intF, bltQ, bltV, lenF, true_and, and_self, or_false, Nat.reduceEqDiff, Nat.reduceLT, Nat.reduceAdd, if_true, if_false, List.getElem?_cons_zero, Option.bind_some, Option.map_some, tt_39, c1]
    refine hK _ ?_
    clear hK K
    refine W.cond (b := false) (by simp only [ev, lk, Nat.reduceEqDiff, if_true, if_false]) (fun h => absurd h (by simp)) (fun _ => W.exit ?_)
    simp only [thn_normal, thn_exit, inb_exit, if_true]
    clear hK0 K0
    refine hKx _ ?_
    refine W.seqK fun K hK => W.regionK tt_ok ?_
    simp only [exOps_nil, exOps_cons, exOp_eq, nx_eq, cur_eq, stepQ, ev, ofV, lk, putT, erA, inB, opt, bnd, req, ret, onQ, ap, slF, bd, bds, and_true, true_and, Nat.reduceEqDiff, Nat.reduceLT, Nat.reduceAdd, Int.toNat_natCast, Nat.le_refl, if_true, if_false, tt_5, tt_39]
    refine ⟨by omega, ?_⟩
    refine hK _ ?_
    clear hK K
    refine W.ret ?_
    simp only [finT_ret, finTB, resQ, lk, opt, bnd, req, ret, onQ, AV.isTup, true_and, and_self, Nat.reduceEqDiff, if_true, if_false, ne_eq]
    simp [vw, vw.vwL, bnd, req, ret, AV.nmIn]
  · have hj0 : ¬ (n + 31) / 32 = 0 := by omega
    simp only [xS, oV, oE, if_neg hj0, List.cons_append, List.nil_append, if_neg hn0]
    have hTl := eT_len key info ((n + 31) / 32)
    have hT : List.take n (List.drop 0 (eT key info ((n + 31) / 32))) = expn key info n := rfl
    generalize eT key info ((n + 31) / 32) = T at *
    have hJ : n ≤ 32 * ((n + 31) / 32) := by omega
    generalize (n + 31) / 32 = J at *
    have c1 : ¬ ((32 * J : Nat) : Int) < (n : Int) := by omega
    refine W.seqK fun K0 hK0 => ?_
    refine W.seqK fun K hK => W.regionK tt_ok ?_
    simp only [decide_false, exOps_nil, exOps_cons, exOp_eq, exCall_eq, nx_eq, cur_eq, evL, stepQ, ev, lk, putT, erA, inB, opt, bnd, req, ret, onQ, ap, binI, binG, binF, intF, bltQ, bltV, lenF, true_and, and_self, or_false, Nat.reduceEqDiff, Nat.reduceLT, Nat.reduceAdd, if_true, if_false, List.getElem?_cons_zero, Option.bind_some, Option.map_some, tt_39, c1]
    refine hK _ ?_
    clear hK K
    refine W.cond (b := false) (by simp only [ev, lk, Nat.reduceEqDiff, if_true, if_false]) (fun h => absurd h (by simp)) (fun _ => W.exit ?_)
    simp only [thn_normal, thn_exit, inb_exit, if_true]
    clear hK0 K0
    refine hKx _ ?_
    refine W.seqK fun K hK => W.regionK tt_ok ?_
    simp only [exOps_nil, exOps_cons, exOp_eq, nx_eq, cur_eq, stepQ, ev, ofV, lk, putT, erA, inB, opt, bnd, req, ret, onQ, ap, slF, bd, bds, and_true, true_and, Nat.reduceEqDiff, Nat.reduceLT, Nat.reduceAdd, Int.toNat_natCast, Nat.add_zero, if_true, if_false, tt_5, tt_39]
    refine ⟨⟨by omega, by omega⟩, ?_⟩
    refine hK _ ?_
    clear hK K
    refine W.ret ?_
    simp only [finT_ret, finTB, resQ, lk, opt, bnd, req, ret, onQ, AV.isTup, true_and, and_self, Nat.reduceEqDiff, if_true, if_false, ne_eq]
    simp [vw, vw.vwL, viewR, lk, Ent.row, opt, bnd, req, ret, AV.nmIn, hTl]
    exact ⟨by omega, by rw [if_neg hn0, ← hT, List.drop_zero]⟩
theorem expand_fn (key info : List Int) (n : Nat) (hk : key.length = 32) (hi : info.length ≤ 10000) (hn : n ≤ 8160) :
    FnR Try.prog G 44 [.agg [.ints .u8 32 key], .lstI .u8 info, .int .i64 (n : Int)] [] (.tup [.lstI .u8 (expn key info n), .int .i64 0]) [] := by
  refine (expand_own key info n hk hi hn).subT ?_
  have := expn_len key info n
  split
  · next h => subst h; rw [List.length_eq_zero_iff] at this; rw [this]; simp [AV.subL, AV.sub]
  · exact AV.subL_refl _
end Go.Proofs.Ytbefcdgjainflaa
