/- The statement MacPieces: the walk. -/
import Derived.Test.YtageadccfdbmjaaDoorShT
-- TT 3 4 5 9 22 24 26 27 28 30 34 42 47 79
-- TOUCH 32 1
-- KIND 13 12 4 5
-- KIND 13 12 7 6
set_option linter.unusedVariables false
set_option linter.unusedSimpArgs false
namespace Go.Proofs.YtageadccfdbmjaaDoor
open Sx
set_option maxRecDepth 100000
set_option maxHeartbeats 4000000
def wV (j : Nat) : AV := if j = 0 then .nils else .sl 1040 1 0 (32 * j)
def pS (key info X : List Int) (n : Nat) (j : Nat) : St :=
  ⟨[(1, .lstI .u8 info), (2, .int .u8 (n : Int)), (3, .ptr 0 0 0 1), (7, .lstI .u8 X), (9, wV j), (10, .lstI .u8 (eL key info j)), (11, .int .u8 (IntKind.u8.wrap ((j : Int) + 1)))], oE key info j ++ [(0, .obj 24 (.agg [.ints .u8 32 key]))], 2048, 56⟩
theorem pieces4_fn (key info : List Int) (n : Nat) (hk : key.length = 32) (hn : n < 256) : FnR Tryd.prog G 13 [.agg [.ints .u8 32 key], .lstI .u8 info, .int .u8 (n : Int)] [] (.bool true) [] := by
  have w0 : IntKind.i64.wrap (n : Int) = (n : Int) := by rw [IntKind.wrap_i64]; omega
  refine FnR.of_walk (m := 56) (n0 := 0) tt_ok Tryd.func13 rfl rfl (by simp) (by simp [nmH]) ?_
  rw [show Tryd.f13.results.toList = [.tmp 6] from rfl]
  refine W.seqK fun K hK => W.regionK tt_ok ?_
  simp only [exOps_nil, exOps_cons, exOp_eq, nx_eq, cur_eq, stepQ, ev, ofV, lk, parT, putT, erA, inB, opt, req, ret, onQ, ap, up, er, AV.isTup, true_and, and_self, Nat.reduceEqDiff, Nat.reduceLT, Nat.reduceAdd, Nat.zero_add, if_true, if_false, reduceCtorEq]
  refine hK _ ?_
  clear hK K
  refine W.seqK fun Kz hKz => ?_
  refine W.seqK fun K hK => W.regionK tt_ok ?_
  simp only [exOps_cons, exOp_eq, exCall_eq, evL, ev, inB, true_and, Nat.reduceLT]
  refine CallK.pure _ _ alive4_fn call20 (by simp only [ret, onQ, isTupL, true_and, Bool.false_eq_true, List.append_nil, vw.vwL, AV.free]; all_goals (and_intros <;> first | exact AV.subL_refl _ | omega | (simp []; done) | rfl | (simp [AV.subL_refl]; done) | (simp; exact AV.subL_refl _))) ?_
  simp only [Bool.not_true, exOps_nil, exOps_cons, exOp_eq, nx_eq, cur_eq, stepQ, ev, lk, putT, erA, inB, opt, bnd, req, ret, onQ, ap, unF, true_and, and_self, Nat.reduceEqDiff, Nat.reduceLT, Nat.reduceAdd, if_true, if_false, reduceCtorEq]
  refine hK _ ?_
  clear hK K
  refine W.cond (b := false) (by simp only [ev, lk, Nat.reduceEqDiff, if_true, if_false, reduceCtorEq]) (fun h => absurd h (by simp)) (fun _ => W.skip ?_)
  simp only [thn_normal]
  refine hKz _ ?_
  refine W.seqK fun Ky hKy => ?_
  by_cases h1 : (300 : Int) < info.length
  · refine W.seqK fun K hK => W.regionK tt_ok ?_
    simp only [decide_true, exOps_nil, exOps_cons, exOp_eq, exCall_eq, nx_eq, cur_eq, evL, stepQ, ev, ofV, lk, putT, erA, inB, opt, bnd, req, ret, onQ, ap, binG, binF, intF, bltQ, bltV, lenF, true_and, and_self, or_false, Nat.reduceEqDiff, Nat.reduceLT, Nat.reduceAdd, if_true, if_false, reduceCtorEq, List.getElem?_cons_zero, Option.bind_some, Option.map_some, tt_22, h1]
    refine hK _ ?_
    clear hK K
    refine W.cond (b := true) (by simp only [ev, lk, Nat.reduceEqDiff, if_true, if_false, reduceCtorEq]) (fun _ => ?_) (fun h => absurd h (by simp))
    refine W.seqK fun K hK => W.regionK tt_ok ?_
    simp only [exOps_nil, exOps_cons, exOp_eq, nx_eq, cur_eq, stepQ, ev, ofV, putT, erA, inB, opt, ret, onQ, ap, true_and, Nat.reduceEqDiff, Nat.reduceLT, Nat.reduceAdd, if_true, if_false, reduceCtorEq]
    refine hK _ ?_
    clear hK K
    refine W.ret ?_
    simp only [fin_ret, finB, resQ, resV, leL, AV.nmIn, entsIn, lk, opt, bnd, req, ret, onQ, AV.isTup, thn_ret, and_self, Nat.reduceEqDiff, if_true, if_false, reduceCtorEq]
  refine W.seqK fun K hK => W.regionK tt_ok ?_
  simp only [decide_false, exOps_nil, exOps_cons, exOp_eq, exCall_eq, nx_eq, cur_eq, evL, stepQ, ev, ofV, lk, putT, erA, inB, opt, bnd, req, ret, onQ, ap, binG, binF, intF, bltQ, bltV, lenF, true_and, and_self, or_false, Nat.reduceEqDiff, Nat.reduceLT, Nat.reduceAdd, if_true, if_false, reduceCtorEq, List.getElem?_cons_zero, Option.bind_some, Option.map_some, tt_22, h1]
  refine hK _ ?_
  clear hK K
  refine W.cond (b := false) (by simp only [ev, lk, Nat.reduceEqDiff, if_true, if_false, reduceCtorEq]) (fun h => absurd h (by simp)) (fun _ => W.skip ?_)
  simp only [thn_normal]
  refine hKy _ ?_
  have c1 := expand_fn key info n hk (by omega) (by omega)
  have hXl := expn_len key info n
  have hX : expn key info n = (eT key info ((n + 31) / 32)).take n := rfl
  generalize expn key info n = X at *
  refine W.seqK fun K hK => W.regionK tt_ok ?_
  simp only [exOps_cons, exOp_eq, exCall_eq, nx_eq, cur_eq, evL, stepQ, ev, lk, putT, erA, inB, opt, bnd, req, ret, onQ, ap, ldP, ldE, ldC, ldS, Kd.agg, comps, csize, takeI, takeC, dropC, cvQ, true_and, and_self, Nat.reduceEqDiff, Nat.reduceLT, Nat.reduceLeDiff, Nat.reduceAdd, Nat.reduceSub, Nat.sub_self, Nat.le_refl, Nat.add_zero, if_true, if_false, reduceCtorEq, Option.bind_some, Option.map_some, tt_3, tt_5, tt_24, w0]
  refine CallK.pure _ _ c1 call24 (by simp only [AV.nmIn, bnd, req, ret, onQ, AV.isTup, isTupL, true_and, and_self, Bool.false_eq_true, List.append_nil, vw.vwL, vw, AV.free, AV.freeL, Bool.or_self]; all_goals (and_intros <;> first | exact AV.subL_refl _ | omega | (simp [AV.sub]; done) | rfl | (simp [AV.subL_refl]; done) | (simp; exact AV.subL_refl _))) ?_
  simp only [exOps_nil, exOps_cons, exOp_eq, nx_eq, cur_eq, stepQ, ev, lk, putT, erA, inB, opt, ret, onQ, ap, true_and, Nat.reduceEqDiff, Nat.reduceLT, Nat.reduceAdd, if_true, if_false, reduceCtorEq, List.getElem?_cons_zero, List.getElem?_cons_succ]
  repeat (refine ⟨by omega, ?_⟩)
  refine hK _ ?_
  clear hK K
  refine W.seqK fun Kx hKx => ?_
  refine W.seqK fun K hK => W.regionK tt_ok ?_
  simp only [Int.reduceBNe, exOps_nil, exOps_cons, exOp_eq, nx_eq, cur_eq, stepQ, ev, ofV, lk, putT, erA, inB, opt, bnd, req, ret, onQ, ap, binG, binF, intF, true_and, and_self, Nat.reduceEqDiff, Nat.reduceLT, Nat.reduceAdd, if_true, if_false, reduceCtorEq]
  refine hK _ ?_
  clear hK K
  refine W.cond (b := false) (by simp only [ev, lk, Nat.reduceEqDiff, if_true, if_false, reduceCtorEq]) (fun h => absurd h (by simp)) (fun _ => W.skip ?_)
  simp only [thn_normal]
  refine hKx _ ?_
  refine W.seqK fun K hK => W.regionK tt_ok ?_
  simp only [exOps_nil, exOps_cons, exOp_eq, nx_eq, cur_eq, stepQ, ev, ofV, putT, erA, inB, opt, ret, onQ, ap, true_and, Nat.reduceEqDiff, Nat.reduceLT, Nat.reduceAdd, if_false, reduceCtorEq]
  refine hK _ ?_
  clear hK K
  refine W.seqK fun Kw hKw => ?_
  refine W.seqK fun K hK => W.regionK tt_ok ?_
  simp only [exOps_nil, exOps_cons, exOp_eq, nx_eq, cur_eq, stepQ, ev, ofV, putT, erA, inB, opt, ret, onQ, ap, true_and, Nat.reduceEqDiff, Nat.reduceLT, Nat.reduceAdd, if_false, reduceCtorEq]
  refine hK _ ?_
  clear hK K
  refine W.blockK ?_
  refine W.loopF (fun j : Nat => j ≤ (n + 31) / 32) (pS key info X n) (fun j => (n + 31) / 32 - j) 0 (by simp) (by simp [pS, wV, oE, eL, show IntKind.u8.wrap 1 = 1 from by rw [IntKind.wrap_u8]; rfl, wkF, leF, leFE, fzN, entSub, AV.sub, AV.subL, vw, vw.vwL, onQ, opt, bnd, req, ret, lk, Nm, AV.isTup, AV.nmIn, AV.nmInL, nmE, Ent.nmIn]) ?_
  clear c1
  intro j hj K3 hK3
  have hw8 : ∀ x : Int, IntKind.u8.wrap (IntKind.u8.wrap x + 1) = IntKind.u8.wrap (x + 1) := fun x => by simp only [IntKind.wrap_u8]; omega
  have hkd : List.take 32 (List.drop 0 key) = key := by rw [List.drop_zero]; exact List.take_of_length_le (by omega)
  by_cases hlt : j < (n + 31) / 32
  · have hL1 := eL_len key info j
    have hLl := eL_le key info j
    have hL0 : 0 < j → (eL key info j).length = 32 := fun h => by obtain ⟨i, rfl⟩ : ∃ i, j = i + 1 := ⟨j - 1, by omega⟩; exact eL_len key info i
    have hTl := eT_len key info j
    have hT1 : eT key info (j + 1) = eT key info j ++ eL key info (j + 1) := rfl
    have hLe : eL key info (j + 1) = hmac key (eL key info j ++ (info ++ [IntKind.u8.wrap ((j : Int) + 1)])) := rfl
    have cm := macSum_fn key (eL key info j ++ (info ++ [IntKind.u8.wrap ((j : Int) + 1)])) (by omega) (by simp; omega)
    rw [← hLe] at cm
    have ht1 : List.take 1 (List.drop 0 [IntKind.u8.wrap ((j : Int) + 1)]) = [IntKind.u8.wrap ((j : Int) + 1)] := rfl
    generalize hL : eL key info (j + 1) = L1 at *
    have hLt : List.take 32 L1 = L1 := List.take_of_length_le (by omega)
    have hLd : List.take 32 (List.drop 0 L1) = L1 := by rw [List.drop_zero]; exact hLt
    clear hLe
    by_cases hj0 : j = 0
    · subst hj0
      have c1 : (0 : Int) < (n : Int) := by omega
      have hE : eL key info 0 = [] := rfl
      have hE0 : eT key info 0 = [] := rfl
      rw [hE, List.nil_append] at cm
      by_cases hi0 : info.length = 0
      · have hi1 : info = [] := List.length_eq_zero_iff.1 hi0
        simp only [pS, wV, oE, if_true, List.nil_append, hE]
        have cm : FnR Tryd.prog G 22 [.lstI .u8 (List.take 32 (List.drop 0 key)), .lstI .u8 (List.take 1 (List.drop 0 [IntKind.u8.wrap (((0 : Nat) : Int) + 1)]))] [] (.agg [.ints .u8 32 L1]) [] := by
          rw [hkd, ht1]; rw [hi1, List.nil_append] at cm; exact cm
        refine W.seqK fun K0 hK0 => ?_
        refine W.seqK fun K hK => W.regionK tt_ok ?_
        simp only [decide_true, exOps_nil, exOps_cons, exOp_eq, exCall_eq, nx_eq, cur_eq, evL, stepQ, ev, lk, putT, erA, inB, opt, bnd, req, ret, onQ, ap, binG, binF, intF, bltQ, bltV, lenF, cvQ, true_and, and_self, or_false, Nat.reduceEqDiff, Nat.reduceLT, Nat.reduceAdd, if_true, if_false, List.getElem?_cons_zero, Option.bind_some, Option.map_some, tt_3, tt_5, tt_22, w0, c1]
        refine hK _ ?_
        clear hK K
        refine W.cond (b := true) (by simp only [ev, lk, Nat.reduceEqDiff, if_true, if_false]) (fun _ => W.skip ?_) (fun h => absurd h (by simp))
        rw [thn_normal]
        refine hK0 _ ?_
        clear hK0 K0
        refine W.seqK fun K hK => W.blockK ?_
        refine W.seqK fun K hK => W.drawK [⟨0, true, []⟩, ⟨0, false, []⟩, ⟨1, true, [1]⟩, ⟨0, false, []⟩, ⟨5, true, [1, 2, 3]⟩, ⟨0, false, []⟩, ⟨1, true, [5]⟩, ⟨6, true, [1, 2, 3, 4, 5, 6]⟩, ⟨0, true, [0, 1, 2, 3, 4, 5, 6, 7]⟩, ⟨1, true, []⟩, ⟨2, false, [0, 1, 2, 3, 4, 5, 6, 7, 8, 9]⟩] mix tt_ok (by kernel_rfl) ?_
        simp only [decide_true, decide_false, Bool.or_true, Bool.or_false, List.contains_cons, List.contains_nil, Nat.reduceBEq, exOp_eq, exCall_eq, exD_cons, nxD_eq, cur_eq, curV_eq, flI, flE, ownB, ownL, ownS, evL, evP, stepQ, ev, ofV, lk, putT, erA, inB, opt, bnd, req, ret, onQ, ap, up, er, AV.isTup, AV.isAgg, intsOf, Kd.agg, comps, szL, csize, takeI, takeC, dropC, stC, stS, bltQ, bltV, slF, bd, bds, appQ, appV, srcQ, rowOf, Row.len, Row.sz, Row.take, Row.drop, Ent.row, Row.lst, bldA, bslQ, zeroCs, cellsRow, and_true, true_and, and_self, and_false, or_false, Nat.reduceEqDiff, Nat.reduceLT, Nat.reduceLeDiff, Nat.reduceAdd, Nat.reduceSub, Nat.reduceMul, Nat.reduceDiv, Nat.sub_self, Nat.le_refl, Nat.zero_le, Nat.add_zero, Nat.zero_add, if_true, if_false, Bool.false_eq_true, reduceCtorEq, ne_eq, not_false_eq_true, not_true_eq_false, Option.bind_some, Option.map_some, List.append_nil, List.nil_append, List.cons_append, tt_5, tt_22, tt_24, hi0, ht1, lit1, beq_self_eq_true, List.set_cons_zero, List.length_cons, List.length_nil]
        refine Or.inl ?_
        refine CallK.pure _ _ cm call22 (by simp only [Bool.or_false, lk, opt, bnd, req, ret, onQ, AV.isTup, isTupL, Ent.row, and_true, true_and, and_self, Nat.reduceEqDiff, Nat.zero_add, if_true, if_false, reduceCtorEq, forall_const, List.append_nil, vw.vwL, vw, viewR, AV.free, AV.freeL, Ent.row, Bool.or_self]; all_goals (and_intros <;> first | exact AV.subL_refl _ | omega | (simp [AV.sub]; done) | rfl | (simp [AV.subL_refl]; done) | (simp; exact AV.subL_refl _))) ?_
        simp only [decide_true, decide_false, Bool.or_false, List.contains_nil, exOp_eq, exD_nil, exD_cons, nxD_eq, cur_eq, flI, flE, ownB, ownL, stepQ, ev, lk, putT, erA, inB, opt, bnd, req, ret, onQ, ap, up, er, AV.isAgg, Kd.agg, comps, szL, csize, takeI, takeC, dropC, stP, stE, stC, stS, true_and, and_self, Nat.reduceEqDiff, Nat.reduceLT, Nat.reduceLeDiff, Nat.reduceAdd, Nat.reduceSub, Nat.reduceDiv, Nat.sub_self, Nat.le_refl, Nat.add_zero, Nat.zero_add, if_true, if_false, Bool.false_eq_true, reduceCtorEq, Option.bind_some, Option.map_some, List.append_nil, List.nil_append, tt_24]
        repeat (refine ⟨by omega, ?_⟩)
        refine hK _ ?_
        clear hK K
        refine W.seqK fun K hK => W.regionK tt_ok ?_
        simp only [exOps_nil, exOps_cons, exOp_eq, exCall_eq, nx_eq, cur_eq, curV_eq, evL, stepQ, ev, ofV, lk, putT, erA, inB, opt, bnd, req, ret, onQ, ap, up, er, comps, szL, csize, bltQ, bltV, slF, bd, bds, appQ, appV, srcQ, Row.len, Row.sz, Row.take, Row.drop, Ent.row, Row.lst, true_and, and_self, Nat.reduceEqDiff, Nat.reduceLT, Nat.reduceLeDiff, Nat.reduceAdd, Nat.reduceSub, Nat.reduceMul, Nat.le_refl, Nat.add_zero, Nat.zero_add, if_true, if_false, reduceCtorEq, ne_eq, not_false_eq_true, Option.bind_some, Option.map_some, tt_5, tt_22, tt_24, hLd, hL1]
        refine Or.inl ?_
        refine hK _ ?_
        clear hK K
        refine W.region tt_ok ?_
        simp only [exOps_nil, exOps_cons, exOp_eq, exCall_eq, nx_eq, cur_eq, curV_eq, evL, stepQ, ev, lk, putT, erA, inB, opt, bnd, req, ret, onQ, ap, up, er, bltQ, bltV, appQ, appV, srcQ, Row.len, Row.sz, Row.take, Row.drop, Ent.row, Row.lst, thn_normal, inb_normal, true_and, and_self, Nat.reduceEqDiff, Nat.reduceLT, Nat.reduceLeDiff, Nat.reduceAdd, Nat.reduceMul, Nat.le_refl, Nat.zero_add, if_true, if_false, reduceCtorEq, ne_eq, not_false_eq_true, Option.bind_some, Option.map_some, tt_5, tt_22, hLd, hL1]
        refine Or.inl (hK _ ?_)
        refine W.freeze ⟨[(1, .lstI .u8 info), (2, .int .u8 (n : Int)), (3, .ptr 0 0 0 1), (7, .lstI .u8 X), (9, .sl 2384 1 0 (32 * 0 + 32)), (10, .lstI .u8 L1), (11, .int .u8 (IntKind.u8.wrap (((0 : Nat) : Int) + 1)))], [(2384, .vec 5 (.ints .u8 (eT key info 0 ++ L1))), (0, .obj 24 (.agg [.ints .u8 32 key]))], 4096, 56⟩ (by simp [wkF, leF, leFE, fzN, fzR, entSub, AV.sub, AV.subL, vw, vw.vwL, viewR, onQ, opt, bnd, req, ret, lk, Nm, Ent.row, AV.isTup, AV.nmIn, AV.nmInL, nmE, Ent.nmIn, Row.nmIn, hL1, hLt, hE0]) ?_
        refine W.swap 2384 1040 (by simp [Nm, lk]) ?_
        simp only [St.swap, tmMap, enMap, swp, AV.map, AV.mapL, Ent.map, Row.map, Nat.reduceEqDiff, if_true, if_false]
        refine W.region tt_ok ?_
        simp only [exOps_nil, exOps_cons, exOp_eq, nx_eq, cur_eq, stepQ, ev, ofV, lk, putT, erA, inB, opt, bnd, req, ret, onQ, ap, binG, binF, intF, thn_normal, true_and, and_self, Nat.reduceEqDiff, Nat.reduceLT, Nat.reduceAdd, Nat.reduceMul, Nat.zero_add, if_true, if_false]
        refine hK3 _ (0 + 1) (by omega) (by omega) ?_
        simp [pS, wV, oE, wkF, leF, leFE, fzN, fzR, entSub, AV.sub, AV.subL, vw, vw.vwL, onQ, opt, bnd, req, ret, lk, Nm, AV.isTup, AV.nmIn, AV.nmInL, nmE, Ent.nmIn, Row.nmIn, hT1, hL, hw8]
      · have cm : FnR Tryd.prog G 22 [.lstI .u8 (List.take 32 (List.drop 0 key)), .lstI .u8 (List.take (info.length + 1) (List.drop 0 (info ++ [IntKind.u8.wrap (((0 : Nat) : Int) + 1)])))] [] (.agg [.ints .u8 32 L1]) [] := by
          rw [hkd, List.drop_zero, List.take_of_length_le (by simp)]; exact cm
        have hit : List.take info.length info = info := List.take_length
        have hl2 : info.length + 1 ≤ (info ++ [IntKind.u8.wrap (((0 : Nat) : Int) + 1)]).length := by simp
        simp only [pS, wV, oE, if_true, List.nil_append, hE]
        refine W.seqK fun K0 hK0 => ?_
        refine W.seqK fun K hK => W.regionK tt_ok ?_
        simp only [decide_true, exOps_nil, exOps_cons, exOp_eq, exCall_eq, nx_eq, cur_eq, evL, stepQ, ev, lk, putT, erA, inB, opt, bnd, req, ret, onQ, ap, binG, binF, intF, bltQ, bltV, lenF, cvQ, true_and, and_self, or_false, Nat.reduceEqDiff, Nat.reduceLT, Nat.reduceAdd, if_true, if_false, List.getElem?_cons_zero, Option.bind_some, Option.map_some, tt_3, tt_5, tt_22, w0, c1]
        refine hK _ ?_
        clear hK K
        refine W.cond (b := true) (by simp only [ev, lk, Nat.reduceEqDiff, if_true, if_false]) (fun _ => W.skip ?_) (fun h => absurd h (by simp))
        rw [thn_normal]
        refine hK0 _ ?_
        clear hK0 K0
        refine W.seqK fun K hK => W.blockK ?_
        refine W.seqK fun K hK => W.drawK [⟨0, true, []⟩, ⟨0, false, []⟩, ⟨1, true, [1]⟩, ⟨0, false, []⟩, ⟨5, true, [1, 2, 3]⟩, ⟨0, false, []⟩, ⟨1, true, [5]⟩, ⟨6, true, [1, 2, 3, 4, 5, 6]⟩, ⟨0, true, [0, 1, 2, 3, 4, 5, 6, 7]⟩, ⟨1, true, []⟩, ⟨2, false, [0, 1, 2, 3, 4, 5, 6, 7, 8, 9]⟩] mix tt_ok (by kernel_rfl) ?_
        simp only [decide_true, decide_false, Bool.or_true, Bool.or_false, List.contains_cons, List.contains_nil, Nat.reduceBEq, exOp_eq, exCall_eq, exD_cons, nxD_eq, cur_eq, curV_eq, flI, flE, ownB, ownL, ownS, evL, evP, stepQ, ev, ofV, lk, putT, erA, inB, opt, bnd, req, ret, onQ, ap, up, er, AV.isTup, AV.isAgg, intsOf, Kd.agg, comps, szL, csize, takeI, takeC, dropC, stC, stS, bltQ, bltV, slF, bd, bds, appQ, appV, srcQ, rowOf, Row.len, Row.sz, Row.take, Row.drop, Row.app, Ent.row, Row.lst, bldA, bslQ, zeroCs, cellsRow, and_true, true_and, and_self, and_false, or_false, Nat.reduceEqDiff, Nat.reduceLT, Nat.reduceLeDiff, Nat.reduceAdd, Nat.reduceSub, Nat.reduceMul, Nat.reduceDiv, Nat.sub_self, Nat.le_refl, Nat.zero_le, Nat.add_zero, Nat.zero_add, if_true, if_false, Bool.false_eq_true, reduceCtorEq, ne_eq, not_false_eq_true, not_true_eq_false, Option.bind_some, Option.map_some, List.append_nil, List.nil_append, List.cons_append, tt_5, tt_22, tt_24, hi0, hit, ht1, lit1, beq_self_eq_true, List.set_cons_zero, List.length_cons, List.length_nil]
        refine ⟨by omega, by omega, ?_⟩
        refine CallK.pure _ _ cm call22 (by simp only [Bool.or_false, lk, opt, bnd, req, ret, onQ, AV.isTup, isTupL, Ent.row, and_true, true_and, and_self, Nat.reduceEqDiff, Nat.zero_add, if_true, if_false, reduceCtorEq, forall_const, List.append_nil, vw.vwL, vw, viewR, AV.free, AV.freeL, Ent.row, Bool.or_self]; all_goals (and_intros <;> first | exact AV.subL_refl _ | omega | (simp [AV.sub]; done) | rfl | (simp [AV.subL_refl]; done) | (simp; exact AV.subL_refl _))) ?_
        simp only [decide_true, decide_false, Bool.or_false, List.contains_nil, exOp_eq, exD_nil, exD_cons, nxD_eq, cur_eq, flI, flE, ownB, ownL, stepQ, ev, lk, putT, erA, inB, opt, bnd, req, ret, onQ, ap, up, er, AV.isAgg, Kd.agg, comps, szL, csize, takeI, takeC, dropC, stP, stE, stC, stS, true_and, and_self, Nat.reduceEqDiff, Nat.reduceLT, Nat.reduceLeDiff, Nat.reduceAdd, Nat.reduceSub, Nat.reduceDiv, Nat.sub_self, Nat.le_refl, Nat.add_zero, Nat.zero_add, if_true, if_false, Bool.false_eq_true, reduceCtorEq, Option.bind_some, Option.map_some, List.append_nil, List.nil_append, tt_24]
        repeat (refine ⟨by omega, ?_⟩)
        refine hK _ ?_
        clear hK K
        refine W.seqK fun K hK => W.regionK tt_ok ?_
        simp only [exOps_nil, exOps_cons, exOp_eq, exCall_eq, nx_eq, cur_eq, curV_eq, evL, stepQ, ev, ofV, lk, putT, erA, inB, opt, bnd, req, ret, onQ, ap, up, er, comps, szL, csize, bltQ, bltV, slF, bd, bds, appQ, appV, srcQ, Row.len, Row.sz, Row.take, Row.drop, Ent.row, Row.lst, true_and, and_self, Nat.reduceEqDiff, Nat.reduceLT, Nat.reduceLeDiff, Nat.reduceAdd, Nat.reduceSub, Nat.reduceMul, Nat.le_refl, Nat.add_zero, Nat.zero_add, if_true, if_false, reduceCtorEq, ne_eq, not_false_eq_true, Option.bind_some, Option.map_some, tt_5, tt_22, tt_24, hLd, hL1]
        refine Or.inl ?_
        refine hK _ ?_
        clear hK K
        refine W.region tt_ok ?_
        simp only [exOps_nil, exOps_cons, exOp_eq, exCall_eq, nx_eq, cur_eq, curV_eq, evL, stepQ, ev, lk, putT, erA, inB, opt, bnd, req, ret, onQ, ap, up, er, bltQ, bltV, appQ, appV, srcQ, Row.len, Row.sz, Row.take, Row.drop, Ent.row, Row.lst, thn_normal, inb_normal, true_and, and_self, Nat.reduceEqDiff, Nat.reduceLT, Nat.reduceLeDiff, Nat.reduceAdd, Nat.reduceMul, Nat.le_refl, Nat.zero_add, if_true, if_false, reduceCtorEq, ne_eq, not_false_eq_true, Option.bind_some, Option.map_some, tt_5, tt_22, hLd, hL1]
        refine Or.inl (hK _ ?_)
        refine W.freeze ⟨[(1, .lstI .u8 info), (2, .int .u8 (n : Int)), (3, .ptr 0 0 0 1), (7, .lstI .u8 X), (9, .sl 2384 1 0 (32 * 0 + 32)), (10, .lstI .u8 L1), (11, .int .u8 (IntKind.u8.wrap (((0 : Nat) : Int) + 1)))], [(2384, .vec 5 (.ints .u8 (eT key info 0 ++ L1))), (0, .obj 24 (.agg [.ints .u8 32 key]))], 4096, 56⟩ (by simp [wkF, leF, leFE, fzN, fzR, entSub, AV.sub, AV.subL, vw, vw.vwL, viewR, onQ, opt, bnd, req, ret, lk, Nm, Ent.row, AV.isTup, AV.nmIn, AV.nmInL, nmE, Ent.nmIn, Row.nmIn, hL1, hLt, hE0]) ?_
        refine W.swap 2384 1040 (by simp [Nm, lk]) ?_
        simp only [St.swap, tmMap, enMap, swp, AV.map, AV.mapL, Ent.map, Row.map, Nat.reduceEqDiff, if_true, if_false]
        refine W.region tt_ok ?_
        simp only [exOps_nil, exOps_cons, exOp_eq, nx_eq, cur_eq, stepQ, ev, ofV, lk, putT, erA, inB, opt, bnd, req, ret, onQ, ap, binG, binF, intF, thn_normal, true_and, and_self, Nat.reduceEqDiff, Nat.reduceLT, Nat.reduceAdd, Nat.reduceMul, Nat.zero_add, if_true, if_false]
        refine hK3 _ (0 + 1) (by omega) (by omega) ?_
        simp [pS, wV, oE, wkF, leF, leFE, fzN, fzR, entSub, AV.sub, AV.subL, vw, vw.vwL, onQ, opt, bnd, req, ret, lk, Nm, AV.isTup, AV.nmIn, AV.nmInL, nmE, Ent.nmIn, Row.nmIn, hT1, hL, hw8]
    · have c1 : ((32 * j : Nat) : Int) < (n : Int) := by omega
      have hL0 := hL0 (by omega)
      have hTt : List.take (32 * j) (eT key info j) = eT key info j := List.take_of_length_le (by omega)
      simp only [pS, wV, oE, if_neg hj0, List.cons_append, List.nil_append]
      generalize eL key info j = L0 at *
      have hLt0 : List.take 32 L0 = L0 := List.take_of_length_le (by omega)
      have hlt2 : List.take (32 + info.length) (L0 ++ info) = L0 ++ info := List.take_of_length_le (by simp; omega)
      have hl2 : 32 + info.length + 1 ≤ (L0 ++ info ++ [IntKind.u8.wrap ((j : Int) + 1)]).length := by simp; omega
      have cm : FnR Tryd.prog G 22 [.lstI .u8 (List.take 32 (List.drop 0 key)), .lstI .u8 (List.take (32 + info.length + 1) (List.drop 0 (L0 ++ info ++ [IntKind.u8.wrap ((j : Int) + 1)])))] [] (.agg [.ints .u8 32 L1]) [] := by
        rw [hkd, List.drop_zero, List.take_of_length_le (by simp; omega), List.append_assoc]; exact cm
      refine W.seqK fun K0 hK0 => ?_
      refine W.seqK fun K hK => W.regionK tt_ok ?_
      simp only [decide_true, exOps_nil, exOps_cons, exOp_eq, exCall_eq, nx_eq, cur_eq, evL, stepQ, ev, lk, putT, erA, inB, opt, bnd, req, ret, onQ, ap, binG, binF, intF, bltQ, bltV, lenF, cvQ, true_and, and_self, or_false, Nat.reduceEqDiff, Nat.reduceLT, Nat.reduceAdd, if_true, if_false, List.getElem?_cons_zero, Option.bind_some, Option.map_some, tt_3, tt_5, tt_22, w0, c1]
      refine hK _ ?_
      clear hK K
      refine W.cond (b := true) (by simp only [ev, lk, Nat.reduceEqDiff, if_true, if_false]) (fun _ => W.skip ?_) (fun h => absurd h (by simp))
      rw [thn_normal]
      refine hK0 _ ?_
      clear hK0 K0
      refine W.seqK fun K hK => W.blockK ?_
      refine W.seqK fun K hK => W.drawK [⟨0, true, []⟩, ⟨0, false, []⟩, ⟨1, true, [1]⟩, ⟨0, false, []⟩, ⟨5, true, [1, 2, 3]⟩, ⟨0, false, []⟩, ⟨1, true, [5]⟩, ⟨6, true, [1, 2, 3, 4, 5, 6]⟩, ⟨0, true, [0, 1, 2, 3, 4, 5, 6, 7]⟩, ⟨1, true, []⟩, ⟨2, false, [0, 1, 2, 3, 4, 5, 6, 7, 8, 9]⟩] mix tt_ok (by kernel_rfl) ?_
      simp only [decide_true, decide_false, Bool.or_true, Bool.or_false, List.contains_cons, List.contains_nil, Nat.reduceBEq, exOp_eq, exCall_eq, exD_cons, nxD_eq, cur_eq, curV_eq, flI, flE, ownB, ownL, ownS, evL, evP, stepQ, ev, ofV, lk, putT, erA, inB, opt, bnd, req, ret, onQ, ap, up, er, AV.isTup, AV.isAgg, intsOf, Kd.agg, comps, szL, csize, takeI, takeC, dropC, stC, stS, bltQ, bltV, slF, bd, bds, appQ, appV, srcQ, rowOf, Row.len, Row.sz, Row.take, Row.drop, Row.app, Ent.row, Row.lst, bldA, bslQ, zeroCs, cellsRow, and_true, true_and, and_self, and_false, or_false, Nat.reduceEqDiff, Nat.reduceLT, Nat.reduceLeDiff, Nat.reduceAdd, Nat.reduceSub, Nat.reduceMul, Nat.reduceDiv, Nat.sub_self, Nat.le_refl, Nat.add_zero, Nat.zero_add, if_true, if_false, Bool.false_eq_true, reduceCtorEq, ne_eq, not_false_eq_true, Option.bind_some, Option.map_some, List.append_nil, List.nil_append, List.cons_append, tt_5, tt_22, tt_24, hL0, hLt0, hlt2, ht1, lit1, beq_self_eq_true, List.set_cons_zero, List.length_cons, List.length_nil]
      refine ⟨by omega, ⟨by simp; omega, by omega, by omega⟩, ?_⟩
      refine CallK.pure _ _ cm call22 (by simp only [Bool.or_false, lk, opt, bnd, req, ret, onQ, AV.isTup, isTupL, Ent.row, and_true, true_and, and_self, Nat.reduceEqDiff, Nat.zero_add, if_true, if_false, reduceCtorEq, forall_const, List.append_nil, vw.vwL, vw, viewR, AV.free, AV.freeL, Ent.row, Bool.or_self]; all_goals (and_intros <;> first | exact AV.subL_refl _ | omega | (simp [AV.sub]; done) | rfl | (simp [AV.subL_refl]; done) | (simp; exact AV.subL_refl _))) ?_
      simp only [decide_true, decide_false, Bool.or_false, List.contains_nil, exOp_eq, exD_nil, exD_cons, nxD_eq, cur_eq, flI, flE, ownB, ownL, stepQ, ev, lk, putT, erA, inB, opt, bnd, req, ret, onQ, ap, up, er, AV.isAgg, Kd.agg, comps, szL, csize, takeI, takeC, dropC, stP, stE, stC, stS, true_and, and_self, Nat.reduceEqDiff, Nat.reduceLT, Nat.reduceLeDiff, Nat.reduceAdd, Nat.reduceSub, Nat.reduceDiv, Nat.sub_self, Nat.le_refl, Nat.add_zero, Nat.zero_add, if_true, if_false, Bool.false_eq_true, reduceCtorEq, Option.bind_some, Option.map_some, List.append_nil, List.nil_append, tt_24]
      repeat (refine ⟨by omega, ?_⟩)
      refine hK _ ?_
      clear hK K
      refine W.seqK fun K hK => W.regionK tt_ok ?_
      simp only [exOps_nil, exOps_cons, exOp_eq, exCall_eq, nx_eq, cur_eq, curV_eq, evL, stepQ, ev, ofV, lk, putT, erA, inB, opt, bnd, req, ret, onQ, ap, up, er, comps, szL, csize, bltQ, bltV, slF, bd, bds, appQ, appV, srcQ, Row.len, Row.sz, Row.take, Row.drop, Ent.row, Row.lst, true_and, and_self, Nat.reduceEqDiff, Nat.reduceLT, Nat.reduceLeDiff, Nat.reduceAdd, Nat.reduceSub, Nat.reduceMul, Nat.le_refl, Nat.add_zero, Nat.zero_add, if_true, if_false, reduceCtorEq, ne_eq, not_false_eq_true, Option.bind_some, Option.map_some, tt_5, tt_22, tt_24, hLd, hL1]
      refine Or.inl ?_
      refine hK _ ?_
      clear hK K
      refine W.region tt_ok ?_
      simp only [exOps_nil, exOps_cons, exOp_eq, exCall_eq, nx_eq, cur_eq, evL, stepQ, ev, lk, putT, erA, inB, opt, bnd, req, ret, onQ, ap, up, er, bltQ, bltV, appQ, appV, srcQ, Row.len, Row.sz, Row.take, Row.drop, Row.app, Ent.row, thn_normal, inb_normal, and_true, true_and, and_self, or_false, Nat.reduceEqDiff, Nat.reduceLT, Nat.reduceLeDiff, Nat.reduceAdd, Nat.le_refl, Nat.zero_add, if_true, if_false, reduceCtorEq, Option.bind_some, Option.map_some, tt_5, tt_22, hLd, hL1, hTt]
      refine ⟨by omega, ?_⟩
      refine hK _ ?_
      refine W.freeze ⟨[(1, .lstI .u8 info), (2, .int .u8 (n : Int)), (3, .ptr 0 0 0 1), (7, .lstI .u8 X), (9, .sl 2384 1 0 (32 * j + 32)), (10, .lstI .u8 L1), (11, .int .u8 (IntKind.u8.wrap (((j : Nat) : Int) + 1)))], [(2384, .vec 5 (.ints .u8 (eT key info j ++ L1))), (0, .obj 24 (.agg [.ints .u8 32 key]))], 4096, 56⟩ (by simp [wkF, leF, leFE, fzN, fzR, entSub, AV.sub, AV.subL, vw, vw.vwL, viewR, onQ, opt, bnd, req, ret, lk, Nm, Ent.row, AV.isTup, AV.nmIn, AV.nmInL, nmE, Ent.nmIn, Row.nmIn, hL1, hLt]) ?_
      refine W.swap 2384 1040 (by simp [Nm, lk]) ?_
      simp only [St.swap, tmMap, enMap, swp, AV.map, AV.mapL, Ent.map, Row.map, Nat.reduceEqDiff, if_true, if_false]
      refine W.region tt_ok ?_
      simp only [exOps_nil, exOps_cons, exOp_eq, nx_eq, cur_eq, stepQ, ev, ofV, lk, putT, erA, inB, opt, bnd, req, ret, onQ, ap, binG, binF, intF, thn_normal, true_and, and_self, Nat.reduceEqDiff, Nat.reduceLT, Nat.reduceAdd, if_true, if_false]
      refine hK3 _ (j + 1) (by omega) (by omega) ?_
      simp [pS, wV, oE, wkF, leF, leFE, fzN, fzR, entSub, AV.sub, AV.subL, vw, vw.vwL, onQ, opt, bnd, req, ret, lk, Nm, AV.isTup, AV.nmIn, AV.nmInL, nmE, Ent.nmIn, Row.nmIn, hT1, hL, hw8, Nat.mul_add]
  have hj' : j = (n + 31) / 32 := by omega
  subst hj'
  by_cases hn0 : n = 0
  · subst hn0
    have c1 : ¬ (0 : Int) < ((0 : Nat) : Int) := by omega
    have hX0 : X = [] := List.length_eq_zero_iff.1 hXl
    simp only [pS, wV, oE, show (0 + 31) / 32 = 0 from rfl, if_true, List.nil_append]
    rw [hX0]
    refine W.seqK fun K0 hK0 => ?_
    refine W.seqK fun K hK => W.regionK tt_ok ?_
    simp only [decide_false, exOps_nil, exOps_cons, exOp_eq, exCall_eq, nx_eq, cur_eq, evL, stepQ, ev, lk, putT, erA, inB, opt, bnd, req, ret, onQ, ap, binG, binF, intF, bltQ, bltV, lenF, cvQ, true_and, and_self, or_false, Nat.reduceEqDiff, Nat.reduceLT, Nat.reduceAdd, if_true, if_false, List.getElem?_cons_zero, Option.bind_some, Option.map_some, tt_3, tt_5, tt_22, w0, c1]
    refine hK _ ?_
    clear hK K
    refine W.cond (b := false) (by simp only [ev, lk, Nat.reduceEqDiff, if_true, if_false]) (fun h => absurd h (by simp)) (fun _ => W.exit ?_)
    simp only [thn_normal, thn_exit, inb_exit, if_true]
    clear hK0 K0
    refine hKw _ ?_
    refine W.seqK fun K hK => W.drawK [⟨0, false, []⟩, ⟨0, false, [0]⟩, ⟨0, false, []⟩, ⟨0, false, []⟩, ⟨0, false, [2, 3]⟩, ⟨0, false, [2, 3, 4]⟩, ⟨0, false, [0, 1, 2, 3, 4, 5]⟩, ⟨0, false, [0, 1, 2, 3, 4, 5, 6]⟩] mix tt_ok (by kernel_rfl) ?_
    simp only [exOp_eq, exD_nil, exD_cons, nxD_eq, cur_eq, flI, ownB, stepQ, ev, lk, putT, erA, inB, opt, bnd, req, ret, onQ, ap, binG, binF, strF, slF, bd, bds, cvQ, s2bQ, srcQ, rowOf, Row.sz, and_true, true_and, and_self, Nat.reduceEqDiff, Nat.reduceLT, Nat.reduceAdd, Int.toNat_natCast, Nat.le_refl, if_true, if_false, reduceCtorEq, ne_eq, not_false_eq_true, forall_const, tt_5, tt_9, tt_22, beq_self_eq_true]
    repeat (refine ⟨by omega, ?_⟩)
    refine hK _ ?_
    clear hK K
    refine W.ret ?_
    simp only [fin_ret, finB, resQ, resV, leL, AV.nmIn, entsIn, lk, opt, bnd, req, ret, onQ, AV.isTup, and_self, Nat.reduceEqDiff, if_true, if_false]
  · have hj0 : ¬ (n + 31) / 32 = 0 := by omega
    simp only [pS, wV, oE, if_neg hj0, List.cons_append, List.nil_append]
    have hTl := eT_len key info ((n + 31) / 32)
    generalize eT key info ((n + 31) / 32) = T at *
    have hJ : n ≤ 32 * ((n + 31) / 32) := by omega
    generalize (n + 31) / 32 = J at *
    have c1 : ¬ ((32 * J : Nat) : Int) < (n : Int) := by omega
    refine W.seqK fun K0 hK0 => ?_
    refine W.seqK fun K hK => W.regionK tt_ok ?_
    simp only [decide_false, exOps_nil, exOps_cons, exOp_eq, exCall_eq, nx_eq, cur_eq, evL, stepQ, ev, lk, putT, erA, inB, opt, bnd, req, ret, onQ, ap, binG, binF, intF, bltQ, bltV, lenF, cvQ, true_and, and_self, or_false, Nat.reduceEqDiff, Nat.reduceLT, Nat.reduceAdd, if_true, if_false, List.getElem?_cons_zero, Option.bind_some, Option.map_some, tt_3, tt_5, tt_22, w0, c1]
    refine hK _ ?_
    clear hK K
    refine W.cond (b := false) (by simp only [ev, lk, Nat.reduceEqDiff, if_true, if_false]) (fun h => absurd h (by simp)) (fun _ => W.exit ?_)
    simp only [thn_normal, thn_exit, inb_exit, if_true]
    clear hK0 K0
    refine hKw _ ?_
    have hXd : List.take (n - 0) (List.drop 0 T) = X := by rw [List.drop_zero, Nat.sub_zero]; exact hX.symm
    refine W.seqK fun K hK => W.drawK [⟨0, false, []⟩, ⟨0, false, [0]⟩, ⟨0, false, []⟩, ⟨0, false, []⟩, ⟨0, false, [2, 3]⟩, ⟨0, false, [2, 3, 4]⟩, ⟨0, false, [0, 1, 2, 3, 4, 5]⟩, ⟨0, false, [0, 1, 2, 3, 4, 5, 6]⟩] mix tt_ok (by kernel_rfl) ?_
    simp only [exOp_eq, exD_nil, exD_cons, nxD_eq, cur_eq, flI, ownB, stepQ, ev, lk, putT, erA, inB, opt, bnd, req, ret, onQ, ap, binG, binF, strF, slF, bd, bds, cvQ, s2bQ, srcQ, rowOf, Row.len, Row.sz, Row.take, Row.drop, Ent.row, and_true, true_and, and_self, Nat.reduceEqDiff, Nat.reduceLT, Nat.reduceAdd, Int.toNat_natCast, Nat.add_zero, Nat.zero_add, if_true, if_false, reduceCtorEq, ne_eq, not_false_eq_true, forall_const, tt_5, tt_9, tt_22, hXd, beq_self_eq_true]
    repeat (refine ⟨by omega, ?_⟩)
    refine hK _ ?_
    clear hK K
    refine W.ret ?_
    simp only [fin_ret, finB, resQ, resV, leL, AV.nmIn, entsIn, lk, opt, bnd, req, ret, onQ, AV.isTup, and_self, Nat.reduceEqDiff, if_true, if_false]
end Go.Proofs.YtageadccfdbmjaaDoor
