/- The document's Keys. -/
import Derived.Test.YtageadccfdbmjaaDoorRuA
import Derived.Test.YtageadccfdbmjaaDoorMkB
-- TT 2 3 4 5 22 24 26 28 47 59 71
-- SIMP Sx.stP
set_option linter.unusedVariables false
set_option linter.unusedSimpArgs false
namespace Go.Proofs.YtageadccfdbmjaaDoor
open Sx
set_option maxRecDepth 100000
set_option maxHeartbeats 4000000
def fK (p : List Int) (j : Nat) : List Int := p.take j ++ List.replicate (32 - j) 0
theorem fK_len (p : List Int) (j : Nat) (hp : p.length = 32) (hj : j ≤ 32) : (fK p j).length = 32 := by rw [fK, List.length_append, List.length_take, List.length_replicate]; omega
theorem fK_set (p : List Int) (j : Nat) (hp : p.length = 32) (hj : j < 32) : (fK p j).set j (p.getD j 0) = fK p (j + 1) := by
  have h1 : (p.take j).length = j := by rw [List.length_take]; omega
  have h2 : 32 - j = (32 - (j + 1)) + 1 := by omega
  have h3 : p.take (j + 1) = p.take j ++ [p.getD j 0] := by
    rw [List.take_add_one, List.getElem?_eq_getElem (by omega)]
    simp [List.getD_eq_getElem?_getD, List.getElem?_eq_getElem (show j < p.length by omega)]
  rw [fK, fK, h3, h2, List.replicate_succ, List.set_append_right _ _ (by omega), h1, Nat.sub_self, List.set_cons_zero, List.append_assoc]
  rfl
theorem fK_all (p : List Int) (hp : p.length = 32) : fK p 32 = p := by rw [fK, List.take_of_length_le (by omega)]; simp
theorem part_get (E : List Int) (i j : Nat) (hj : j < 32) : E.getD (32 * i + j) 0 = (part E i).getD j 0 := by
  rw [part, List.getD_eq_getElem?_getD, List.getD_eq_getElem?_getD, List.getElem?_take, if_pos hj, List.getElem?_drop]
def oZ (i : Nat) : AV := if i = 0 then .nils else .sl 1040 32 0 i
def oF (E : List Int) (i : Nat) : Ents := if i = 0 then [] else [(1040, .vec 24 (.avs 32 ((List.range i).map (partV E))))]
theorem rkeys_bad (key b : List Int) (n : Int) (hk : key.length = 32) (hn : n < 1 ∨ 3 < n) :
    FnR Tryd.prog G 27 [.agg [.ints .u8 32 key], .lstI .u8 b, .int .i64 n] [] (.tup [.nils, .int .i64 2]) [] := by
  refine FnR.of_walkT (m := 54) tt_ok Tryd.func27 rfl rfl (by simp) ?_
  rw [show Tryd.f27.results.toList = [.tmp 6, .tmp 7] from rfl]
  refine W.seqK fun K hK => W.regionK tt_ok ?_
  simp only [exOps_nil, exOps_cons, exOp_eq, nx_eq, cur_eq, stepQ, ev, ofV, lk, parT, putT, erA, inB, opt, req, ret, onQ, ap, up, er, AV.isTup, true_and, and_self, Nat.reduceEqDiff, Nat.reduceLT, Nat.reduceAdd, Nat.zero_add, if_true, if_false, reduceCtorEq]
  refine hK _ ?_
  clear hK K
  refine W.seqK fun Ky hKy => ?_
  by_cases h1 : n < 1
  · refine W.seqK fun K hK => W.regionK tt_ok ?_
    simp only [↓gTF, ↓nTF, decide_true, exOps_nil, exOps_cons, exOp_eq, nx_eq, cur_eq, stepQ, ev, ofV, lk, putT, erA, inB, opt, bnd, req, ret, onQ, ap, binG, binF, intF, pickF, true_and, and_self, Nat.reduceEqDiff, Nat.reduceLT, Nat.reduceAdd, if_true, if_false, reduceCtorEq, List.getElem?_cons_zero, List.getElem?_cons_succ, Option.bind_some, h1]
    refine hK _ ?_
    clear hK K
    refine W.cond (b := true) (by simp only [ev, lk, Nat.reduceEqDiff, if_true, if_false, reduceCtorEq]) (fun _ => ?_) (fun h => absurd h (by simp))
    refine W.seqK fun K hK => W.regionK tt_ok ?_
    simp only [exOps_nil, exOps_cons, exOp_eq, nx_eq, cur_eq, stepQ, ev, ofV, putT, erA, inB, opt, ret, onQ, ap, true_and, Nat.reduceEqDiff, Nat.reduceLT, Nat.reduceAdd, if_true, if_false, reduceCtorEq]
    refine hK _ ?_
    clear hK K
    refine W.ret ?_
    simp only [finT_ret, finTB, resQ, lk, opt, bnd, req, ret, onQ, AV.isTup, thn_ret, true_and, and_self, Nat.reduceEqDiff, if_true, if_false, reduceCtorEq, ne_eq]
    simp [vw, vw.vwL, bnd, req, ret, AV.nmIn]
  · have h2 : 3 < n := by omega
    refine W.seqK fun K hK => W.regionK tt_ok ?_
    simp only [↓gFF, ↓nFF, decide_true, decide_false, exOps_nil, exOps_cons, exOp_eq, nx_eq, cur_eq, stepQ, ev, ofV, lk, putT, erA, inB, opt, bnd, req, ret, onQ, ap, binG, binF, intF, pickF, and_true, true_and, and_self, Nat.reduceEqDiff, Nat.reduceLT, Nat.reduceAdd, if_true, if_false, reduceCtorEq, List.getElem?_cons_zero, List.getElem?_cons_succ, Option.bind_some, h1, h2]
    refine hK _ ?_
    clear hK K
    refine W.cond (b := true) (by simp only [ev, lk, Nat.reduceEqDiff, if_true, if_false, reduceCtorEq]) (fun _ => ?_) (fun h => absurd h (by simp))
    refine W.seqK fun K hK => W.regionK tt_ok ?_
    simp only [exOps_nil, exOps_cons, exOp_eq, nx_eq, cur_eq, stepQ, ev, ofV, putT, erA, inB, opt, ret, onQ, ap, true_and, Nat.reduceEqDiff, Nat.reduceLT, Nat.reduceAdd, if_true, if_false, reduceCtorEq]
    refine hK _ ?_
    clear hK K
    refine W.ret ?_
    simp only [finT_ret, finTB, resQ, lk, opt, bnd, req, ret, onQ, AV.isTup, thn_ret, true_and, and_self, Nat.reduceEqDiff, if_true, if_false, reduceCtorEq, ne_eq]
    simp [vw, vw.vwL, bnd, req, ret, AV.nmIn]
theorem rkeys_fn (key b : List Int) (n : Nat) (hk : key.length = 32) (hb : b.length ≤ 80000) (hK : ∀ x ∈ key, 0 ≤ x ∧ x < 256) (hB : ∀ x ∈ b, 0 ≤ x ∧ x < 256) (h1 : 1 ≤ n) (h3 : n ≤ 3) :
    FnR Tryd.prog G 27 [.agg [.ints .u8 32 key], .lstI .u8 b, .int .i64 (n : Int)] [] (.tup [keysV (expn (hmac key b) [] (32 * n)) n, .int .i64 0]) [] := by
  have c1 := rextract_fn key b (by omega) hb hK hB
  have hD := hmac_len key b
  have c2 := rexpand_fn (hmac key b) [] (32 * n) hD (by simp) (by omega) (hmac_bytes key b hb hB) (by simp)
  have hE := expn_len (hmac key b) [] (32 * n)
  generalize expn (hmac key b) [] (32 * n) = E at *
  generalize hmac key b = D at *
  have hkt : List.take 32 key = key := List.take_of_length_le (by omega)
  have hw : IntKind.i64.wrap (32 * (n : Int)) = ((32 * n : Nat) : Int) := by rw [IntKind.wrap_i64]; omega
  have c1 : FnR Tryd.prog G 37 [.lstI .u8 (List.take 32 key), .lstI .u8 b] [] (.agg [.ints .u8 32 D]) [] := by rw [hkt]; exact c1
  rw [← hw] at c2
  have n1 : ¬ (n : Int) < 1 := by omega
  have n2 : ¬ 3 < (n : Int) := by omega
  refine FnR.of_walkT (m := 54) tt_ok Tryd.func27 rfl rfl (by simp) ?_
  rw [show Tryd.f27.results.toList = [.tmp 6, .tmp 7] from rfl]
  refine W.seqK fun K hK => W.regionK tt_ok ?_
  simp only [exOps_nil, exOps_cons, exOp_eq, nx_eq, cur_eq, stepQ, ev, ofV, lk, parT, putT, erA, inB, opt, req, ret, onQ, ap, up, er, AV.isTup, true_and, and_self, Nat.reduceEqDiff, Nat.reduceLT, Nat.reduceAdd, Nat.zero_add, if_true, if_false, reduceCtorEq]
  refine hK _ ?_
  clear hK K
  refine W.seqK fun Ky hKy => ?_
  refine W.seqK fun K hK => W.regionK tt_ok ?_
  simp only [↓gFF, ↓nFF, decide_false, exOps_nil, exOps_cons, exOp_eq, nx_eq, cur_eq, stepQ, ev, ofV, lk, putT, erA, inB, opt, bnd, req, ret, onQ, ap, binG, binF, intF, pickF, and_true, true_and, and_self, Nat.reduceEqDiff, Nat.reduceLT, Nat.reduceAdd, if_true, if_false, reduceCtorEq, List.getElem?_cons_zero, List.getElem?_cons_succ, Option.bind_some, n1, n2]
  refine hK _ ?_
  clear hK K
  refine W.cond (b := false) (by simp only [ev, lk, Nat.reduceEqDiff, if_true, if_false, reduceCtorEq]) (fun h => absurd h (by simp)) (fun _ => W.skip ?_)
  simp only [thn_normal]
  refine hKy _ ?_
  refine W.seqK fun K hK => W.regionK tt_ok ?_
  simp only [exOps_cons, exOp_eq, exCall_eq, nx_eq, cur_eq, evL, stepQ, ev, lk, putT, erA, inB, opt, bnd, req, ret, onQ, ap, comps, szL, csize, slF, bd, bds, true_and, and_self, Nat.reduceEqDiff, Nat.reduceLT, Nat.reduceLeDiff, Nat.reduceAdd, Nat.reduceSub, Nat.reduceMul, Nat.add_zero, if_true, if_false, reduceCtorEq, Option.bind_some, Option.map_some, tt_5, tt_24]
  refine CallK.pure _ _ c1 call37 (by simp only [Bool.or_false, AV.nmIn, lk, opt, bnd, req, ret, onQ, AV.isTup, isTupL, Ent.row, and_true, true_and, and_self, Nat.zero_add, if_true, forall_const, List.append_nil, vw.vwL, vw, viewR, AV.free, AV.freeL, Ent.row, Bool.or_self]; all_goals (and_intros <;> first | exact AV.subL_refl _ | omega | (simp [AV.sub]; done) | rfl | (simp [AV.subL_refl]; done) | (simp; exact AV.subL_refl _))) ?_
  simp only [exOps_nil, exOps_cons, exOp_eq, nx_eq, cur_eq, stepQ, ev, lk, putT, erA, inB, opt, bnd, req, ret, onQ, ap, up, er, AV.isAgg, Kd.agg, comps, szL, csize, takeI, takeC, dropC, stE, stC, stS, true_and, and_self, Nat.reduceEqDiff, Nat.reduceLT, Nat.reduceLeDiff, Nat.reduceAdd, Nat.reduceSub, Nat.sub_self, Nat.le_refl, Nat.add_zero, Nat.zero_add, if_true, if_false, reduceCtorEq, Option.bind_some, Option.map_some, List.append_nil, List.nil_append, tt_24, Sx.stP]
  repeat (refine ⟨by omega, ?_⟩)
  refine hK _ ?_
  clear hK K
  refine W.seqK fun K hK => W.regionK tt_ok ?_
  simp only [exOps_cons, exOp_eq, exCall_eq, nx_eq, cur_eq, evL, stepQ, ev, ofV, lk, putT, erA, inB, opt, bnd, req, ret, onQ, ap, binG, binF, intF, ldP, ldE, ldC, ldS, Kd.agg, comps, csize, takeI, takeC, dropC, true_and, and_self, Nat.reduceEqDiff, Nat.reduceLT, Nat.reduceLeDiff, Nat.reduceAdd, Nat.reduceSub, Nat.sub_self, Nat.le_refl, Nat.add_zero, if_true, if_false, reduceCtorEq, Option.bind_some, Option.map_some, tt_24]
  refine CallK.pure _ _ c2 call25 (by simp only [AV.nmIn, bnd, req, ret, onQ, AV.isTup, isTupL, true_and, and_self, Bool.false_eq_true, List.append_nil, vw.vwL, vw, AV.free, AV.freeL, Bool.or_self]; all_goals (and_intros <;> first | exact AV.subL_refl _ | omega | (simp [AV.sub]; done) | rfl | (simp [AV.subL_refl]; done) | (simp; exact AV.subL_refl _))) ?_
  simp only [exOps_nil, exOps_cons, exOp_eq, nx_eq, cur_eq, stepQ, ev, lk, putT, erA, inB, opt, ret, onQ, ap, true_and, Nat.reduceEqDiff, Nat.reduceLT, Nat.reduceAdd, if_true, if_false, reduceCtorEq, List.getElem?_cons_zero, List.getElem?_cons_succ]
  repeat (refine ⟨by omega, ?_⟩)
  refine hK _ ?_
  clear hK K
  refine W.seqK fun K hK => W.regionK tt_ok ?_
  simp only [exOps_nil, exOps_cons, exOp_eq, nx_eq, cur_eq, stepQ, ev, ofV, putT, erA, inB, opt, ret, onQ, ap, true_and, Nat.reduceEqDiff, Nat.reduceLT, Nat.reduceAdd, if_false, reduceCtorEq]
  refine hK _ ?_
  clear hK K
  refine W.seqK fun Kz hKz => ?_
  refine W.seqK fun K hK => W.regionK tt_ok ?_
  simp only [exOps_nil, exOps_cons, exOp_eq, nx_eq, cur_eq, stepQ, ev, ofV, putT, erA, inB, opt, ret, onQ, ap, true_and, Nat.reduceEqDiff, Nat.reduceLT, Nat.reduceAdd, if_false, reduceCtorEq]
  refine hK _ ?_
  clear hK K
  refine W.blockK ?_
  refine W.loopS (fun i : Nat => i ≤ n) (fun i => ⟨[(2, .int .i64 (n : Int)), (9, .lstI .u8 E), (11, oZ i), (12, .int .i64 (i : Int))], oF E i, 2048, 54⟩) (fun i => n - i) 0 (by simp) (by simp [wk, leL, lk, nmT, nmE, nmH, oZ, oF, AV.nmIn]) ?_
  intro i hi K3 hK3
  by_cases hlt : i < n
  · have l1 : (i : Int) < (n : Int) := by omega
    have hp := part_len hE hlt
    by_cases h0 : i = 0
    · subst h0
      simp only [oZ, oF, if_true]
      have hgx : ∀ j, j < 32 → E.getD j 0 = (part E 0).getD j 0 := fun j hj => by simpa using part_get E 0 j hj
      refine W.seqK fun K0 hK0 => ?_
      refine W.seqK fun K hK => W.regionK tt_ok ?_
      simp only [decide_true, exOps_nil, exOps_cons, exOp_eq, nx_eq, cur_eq, stepQ, ev, lk, putT, erA, inB, opt, bnd, req, ret, onQ, ap, binG, binF, intF, true_and, and_self, Nat.reduceEqDiff, Nat.reduceLT, Nat.reduceAdd, if_true, if_false, l1]
      refine hK _ ?_
      clear hK K
      refine W.cond (b := true) (by simp only [ev, lk, Nat.reduceEqDiff, if_true, if_false]) (fun _ => W.skip ?_) (fun h => absurd h (by simp))
      rw [thn_normal]
      refine hK0 _ ?_
      clear hK0 K0
      refine W.seqK fun K hK => W.blockK ?_
      refine W.seqK fun K hK => W.regionK tt_ok ?_
      simp only [exOps_nil, exOps_cons, exOp_eq, nx_eq, cur_eq, stepQ, putT, erA, inB, opt, ret, onQ, ap, up, er, true_and, Nat.reduceEqDiff, Nat.reduceLT, Nat.reduceAdd, if_false, tt_24]
      refine hK _ ?_
      clear hK K
      refine W.seqK fun Kx hKx => ?_
      refine W.seqK fun K hK => W.regionK tt_ok ?_
      simp only [exOps_nil, exOps_cons, exOp_eq, nx_eq, cur_eq, stepQ, ev, ofV, putT, erA, inB, opt, ret, onQ, ap, true_and, Nat.reduceEqDiff, Nat.reduceLT, Nat.reduceAdd, if_false]
      refine hK _ ?_
      clear hK K
      refine W.blockK ?_
      refine W.loopK (fun j : Nat => j ≤ 32) (fun j => ⟨[(2, .int .i64 (n : Int)), (9, .lstI .u8 E), (11, .nils), (12, .int .i64 ((0 : Nat) : Int)), (13, .ptr 2096 0 0 1), (14, .int .i64 (j : Int))], (2096, .obj 24 (.agg [.ints .u8 32 (fK (part E 0) j)])) :: [], 4096, 54⟩) (fun j => 32 - j) 0 (by simp) (by simp [wk, leL, lk, nmT, nmE, nmH, AV.nmIn, AV.nmInL, Ent.nmIn, fK]) ?_
      intro j hj K4 hK4
      by_cases hl : j < 32
      · have m1 : (j : Int) < 32 := by omega
        have w1 : IntKind.i64.wrap (32 * ((0 : Nat) : Int)) = ((32 * 0 : Nat) : Int) := by rw [IntKind.wrap_i64]; omega
        have w2 : IntKind.i64.wrap (((32 * 0 : Nat) : Int) + (j : Int)) = ((32 * 0 + j : Nat) : Int) := by rw [IntKind.wrap_i64]; omega
        have hgE := hgx j hl
        have hfl := fK_len (part E 0) j hp hj
        have hfs := fK_set (part E 0) j hp hl
        refine W.seqK fun K0 hK0 => ?_
        refine W.seqK fun K hK => W.regionK tt_ok ?_
        simp only [decide_true, exOps_nil, exOps_cons, exOp_eq, nx_eq, cur_eq, stepQ, ev, ofV, lk, putT, erA, inB, opt, bnd, req, ret, onQ, ap, binG, binF, intF, true_and, and_self, Nat.reduceEqDiff, Nat.reduceLT, Nat.reduceAdd, if_true, if_false, m1]
        refine hK _ ?_
        clear hK K
        refine W.cond (b := true) (by simp only [ev, lk, Nat.reduceEqDiff, if_true, if_false]) (fun _ => W.skip ?_) (fun h => absurd h (by simp))
        rw [thn_normal]
        refine hK0 _ ?_
        clear hK0 K0
        refine W.seqK fun K hK => W.blockK ?_
        refine W.region tt_ok ?_
        simp only [exOps_nil, exOps_cons, exOp_eq, nx_eq, cur_eq, stepQ, ev, ofV, lk, putT, erA, inB, opt, bnd, req, ret, onQ, ap, up, er, AV.isTup, AV.isAgg, binG, binF, intF, Kd.elem, Kd.isInt, ixA, asI, ldP, ldC, ldS, Kd.agg, comps, csize, takeI, takeC, dropC, stE, stC, stS, thn_normal, inb_normal, and_true, true_and, and_self, Nat.reduceEqDiff, Nat.reduceLT, Nat.reduceLeDiff, Nat.reduceAdd, Nat.reduceSub, Nat.reduceMul, Nat.sub_self, Int.toNat_natCast, Nat.le_refl, Nat.zero_add, if_true, if_false, Bool.false_eq_true, reduceCtorEq, Option.bind_some, Option.map_some, tt_5, tt_22, tt_24, Sx.stP, w1, w2, hgE, hfs]
        refine ⟨by omega, by omega, hl, ?_⟩
        refine hK _ ?_
        refine W.region tt_ok ?_
        simp only [exOps_nil, exOps_cons, exOp_eq, nx_eq, cur_eq, stepQ, ev, ofV, lk, putT, erA, inB, opt, bnd, req, ret, onQ, ap, binG, binF, intF, thn_normal, true_and, and_self, Nat.reduceEqDiff, Nat.reduceLT, Nat.reduceAdd, if_true, if_false]
        refine hK4 _ (j + 1) (by omega) (by omega) ?_
        simp [wk, leL, lk, nmT, nmE, nmH, AV.nmIn, AV.nmInL, Ent.nmIn, IntKind.wrap_i64]
        try omega
      obtain rfl : j = 32 := by omega
      have m1 : ¬ ((32 : Nat) : Int) < 32 := by omega
      have hfa := fK_all (part E 0) hp
      refine W.seqK fun K0 hK0 => ?_
      refine W.seqK fun K hK => W.regionK tt_ok ?_
      simp only [decide_false, exOps_nil, exOps_cons, exOp_eq, nx_eq, cur_eq, stepQ, ev, ofV, lk, putT, erA, inB, opt, bnd, req, ret, onQ, ap, binG, binF, intF, true_and, and_self, Nat.reduceEqDiff, Nat.reduceLT, Nat.reduceAdd, if_true, if_false, m1]
      refine hK _ ?_
      clear hK K
      refine W.cond (b := false) (by simp only [ev, lk, Nat.reduceEqDiff, if_true, if_false]) (fun h => absurd h (by simp)) (fun _ => W.exit ?_)
      simp only [thn_normal, thn_exit, inb_exit, Nat.reduceEqDiff, if_true, if_false, reduceCtorEq]
      clear hK0 K0
      refine hKx _ ?_
      refine W.region tt_ok ?_
      simp only [exOps_nil, exOps_cons, exOp_eq, exCall_eq, nx_eq, cur_eq, evL, evP, stepQ, ev, lk, putT, erA, inB, opt, bnd, req, ret, onQ, ap, up, er, AV.isTup, AV.isAgg, ldP, ldE, ldC, ldS, Kd.agg, comps, szL, csize, takeI, takeC, dropC, stC, stS, bltQ, bltV, appQ, appV, srcQ, Row.len, Row.sz, Row.take, Row.drop, Ent.row, Row.lst, bldA, bslQ, zeroCs, cellsRow, chunks, ones, thn_normal, inb_normal, true_and, and_self, or_false, Nat.reduceEqDiff, Nat.reduceLT, Nat.reduceLeDiff, Nat.reduceAdd, Nat.reduceSub, Nat.reduceMul, Nat.sub_self, Nat.le_refl, Nat.add_zero, Nat.zero_add, if_true, if_false, cond_true, reduceCtorEq, ne_eq, not_false_eq_true, Option.bind_some, Option.map_some, List.append_nil, List.nil_append, tt_24, tt_47, hfa, List.replicate_one, List.flatten_cons, List.flatten_nil, List.length_cons, List.length_nil, List.drop_zero, List.take_succ_cons, List.take_zero]
      refine hK _ ?_
      refine W.region tt_ok ?_
      simp only [exOps_nil, exOps_cons, exOp_eq, nx_eq, cur_eq, stepQ, ev, ofV, lk, putT, erA, inB, opt, bnd, req, ret, onQ, ap, binG, binF, intF, thn_normal, true_and, and_self, Nat.reduceEqDiff, Nat.reduceLT, Nat.reduceAdd, if_true, if_false]
      refine hK3 _ 1 4176 1040 (by omega) (by omega) ⟨⟨by simp [Nm, lk], by simp [Nm, lk]⟩, by simp, by simp⟩ ?_
      simp [St.swap, tmMap, enMap, swp, AV.map, AV.mapL, Ent.map, Row.map, wk, leL, lk, nmT, nmE, nmH, oZ, oF, AV.nmIn, AV.nmInL, Ent.nmIn, Row.nmIn, partV, IntKind.wrap_i64]
    · simp only [oZ, oF, if_neg h0]
      have hgx := part_get E i
      refine W.seqK fun K0 hK0 => ?_
      refine W.seqK fun K hK => W.regionK tt_ok ?_
      simp only [decide_true, exOps_nil, exOps_cons, exOp_eq, nx_eq, cur_eq, stepQ, ev, lk, putT, erA, inB, opt, bnd, req, ret, onQ, ap, binG, binF, intF, true_and, and_self, Nat.reduceEqDiff, Nat.reduceLT, Nat.reduceAdd, if_true, if_false, l1]
      refine hK _ ?_
      clear hK K
      refine W.cond (b := true) (by simp only [ev, lk, Nat.reduceEqDiff, if_true, if_false]) (fun _ => W.skip ?_) (fun h => absurd h (by simp))
      rw [thn_normal]
      refine hK0 _ ?_
      clear hK0 K0
      refine W.seqK fun K hK => W.blockK ?_
      refine W.seqK fun K hK => W.regionK tt_ok ?_
      simp only [exOps_nil, exOps_cons, exOp_eq, nx_eq, cur_eq, stepQ, putT, erA, inB, opt, ret, onQ, ap, up, er, true_and, Nat.reduceEqDiff, Nat.reduceLT, Nat.reduceAdd, if_false, tt_24]
      refine hK _ ?_
      clear hK K
      refine W.seqK fun Kx hKx => ?_
      refine W.seqK fun K hK => W.regionK tt_ok ?_
      simp only [exOps_nil, exOps_cons, exOp_eq, nx_eq, cur_eq, stepQ, ev, ofV, putT, erA, inB, opt, ret, onQ, ap, true_and, Nat.reduceEqDiff, Nat.reduceLT, Nat.reduceAdd, if_false]
      refine hK _ ?_
      clear hK K
      refine W.blockK ?_
      refine W.loopK (fun j : Nat => j ≤ 32) (fun j => ⟨[(2, .int .i64 (n : Int)), (9, .lstI .u8 E), (11, .sl 1040 32 0 i), (12, .int .i64 ((i : Nat) : Int)), (13, .ptr 2096 0 0 1), (14, .int .i64 (j : Int))], (2096, .obj 24 (.agg [.ints .u8 32 (fK (part E i) j)])) :: [(1040, .vec 24 (.avs 32 ((List.range i).map (partV E) ) ) ) ], 4096, 54⟩) (fun j => 32 - j) 0 (by simp) (by simp [wk, leL, lk, nmT, nmE, nmH, AV.nmIn, AV.nmInL, Ent.nmIn, Row.nmIn, fK, nmInL_agg]) ?_
      intro j hj K4 hK4
      by_cases hl : j < 32
      · have m1 : (j : Int) < 32 := by omega
        have w1 : IntKind.i64.wrap (32 * ((i : Nat) : Int)) = ((32 * i : Nat) : Int) := by rw [IntKind.wrap_i64]; omega
        have w2 : IntKind.i64.wrap (((32 * i : Nat) : Int) + (j : Int)) = ((32 * i + j : Nat) : Int) := by rw [IntKind.wrap_i64]; omega
        have hgE := hgx j hl
        have hfl := fK_len (part E i) j hp hj
        have hfs := fK_set (part E i) j hp hl
        refine W.seqK fun K0 hK0 => ?_
        refine W.seqK fun K hK => W.regionK tt_ok ?_
        simp only [decide_true, exOps_nil, exOps_cons, exOp_eq, nx_eq, cur_eq, stepQ, ev, ofV, lk, putT, erA, inB, opt, bnd, req, ret, onQ, ap, binG, binF, intF, true_and, and_self, Nat.reduceEqDiff, Nat.reduceLT, Nat.reduceAdd, if_true, if_false, m1]
        refine hK _ ?_
        clear hK K
        refine W.cond (b := true) (by simp only [ev, lk, Nat.reduceEqDiff, if_true, if_false]) (fun _ => W.skip ?_) (fun h => absurd h (by simp))
        rw [thn_normal]
        refine hK0 _ ?_
        clear hK0 K0
        refine W.seqK fun K hK => W.blockK ?_
        refine W.region tt_ok ?_
        simp only [exOps_nil, exOps_cons, exOp_eq, nx_eq, cur_eq, stepQ, ev, ofV, lk, putT, erA, inB, opt, bnd, req, ret, onQ, ap, up, er, AV.isTup, AV.isAgg, binG, binF, intF, Kd.elem, Kd.isInt, ixA, asI, ldP, ldC, ldS, Kd.agg, comps, csize, takeI, takeC, dropC, stE, stC, stS, thn_normal, inb_normal, and_true, true_and, and_self, Nat.reduceEqDiff, Nat.reduceLT, Nat.reduceLeDiff, Nat.reduceAdd, Nat.reduceSub, Nat.sub_self, Int.toNat_natCast, Nat.le_refl, Nat.zero_add, if_true, if_false, Bool.false_eq_true, reduceCtorEq, Option.bind_some, Option.map_some, tt_5, tt_22, tt_24, Sx.stP, w1, w2, hgE, hfs]
        refine ⟨by omega, by omega, hl, ?_⟩
        refine hK _ ?_
        refine W.region tt_ok ?_
        simp only [exOps_nil, exOps_cons, exOp_eq, nx_eq, cur_eq, stepQ, ev, ofV, lk, putT, erA, inB, opt, bnd, req, ret, onQ, ap, binG, binF, intF, thn_normal, true_and, and_self, Nat.reduceEqDiff, Nat.reduceLT, Nat.reduceAdd, if_true, if_false]
        refine hK4 _ (j + 1) (by omega) (by omega) ?_
        simp [wk, leL, lk, nmT, nmE, nmH, AV.nmIn, AV.nmInL, Ent.nmIn, Row.nmIn, nmInL_agg, IntKind.wrap_i64]
        try omega
      obtain rfl : j = 32 := by omega
      have m1 : ¬ ((32 : Nat) : Int) < 32 := by omega
      have hfa := fK_all (part E i) hp
      refine W.seqK fun K0 hK0 => ?_
      refine W.seqK fun K hK => W.regionK tt_ok ?_
      simp only [decide_false, exOps_nil, exOps_cons, exOp_eq, nx_eq, cur_eq, stepQ, ev, ofV, lk, putT, erA, inB, opt, bnd, req, ret, onQ, ap, binG, binF, intF, true_and, and_self, Nat.reduceEqDiff, Nat.reduceLT, Nat.reduceAdd, if_true, if_false, m1]
      refine hK _ ?_
      clear hK K
      refine W.cond (b := false) (by simp only [ev, lk, Nat.reduceEqDiff, if_true, if_false]) (fun h => absurd h (by simp)) (fun _ => W.exit ?_)
      simp only [thn_normal, thn_exit, inb_exit, Nat.reduceEqDiff, if_true, if_false, reduceCtorEq]
      clear hK0 K0
      refine hKx _ ?_
      refine W.region tt_ok ?_
      simp only [exOps_nil, exOps_cons, exOp_eq, exCall_eq, nx_eq, cur_eq, evL, evP, stepQ, ev, lk, putT, erA, inB, opt, bnd, req, ret, onQ, ap, up, er, AV.isTup, AV.isAgg, ldP, ldE, ldC, ldS, Kd.agg, comps, szL, csize, takeI, takeC, dropC, stC, stS, bltQ, bltV, appR, appQ, appV, srcQ, Row.len, Row.sz, Row.take, Row.drop, Row.app, Ent.row, bldA, bslQ, zeroCs, cellsRow, chunks, ones, thn_normal, inb_normal, and_true, true_and, and_self, or_false, Nat.reduceEqDiff, Nat.reduceLT, Nat.reduceLeDiff, Nat.reduceAdd, Nat.reduceSub, Nat.reduceMul, Nat.sub_self, Nat.le_refl, Nat.add_zero, Nat.zero_add, if_true, if_false, cond_true, reduceCtorEq, Option.bind_some, Option.map_some, List.append_nil, List.nil_append, tt_24, tt_47, hfa, List.replicate_one, List.flatten_cons, List.flatten_nil, List.length_cons, List.length_nil, List.drop_zero, List.take_succ_cons, List.take_zero, List.length_map, List.length_range]
      refine ⟨⟨by omega, by omega⟩, ?_⟩
      have ht : List.take i (List.map (partV E) (List.range i)) = List.map (partV E) (List.range i) := List.take_of_length_le (by simp)
      rw [ht]
      refine hK _ ?_
      refine W.region tt_ok ?_
      simp only [exOps_nil, exOps_cons, exOp_eq, nx_eq, cur_eq, stepQ, ev, ofV, lk, putT, erA, inB, opt, bnd, req, ret, onQ, ap, binG, binF, intF, thn_normal, true_and, and_self, Nat.reduceEqDiff, Nat.reduceLT, Nat.reduceAdd, if_true, if_false]
      refine hK3 _ (i + 1) 4176 1040 (by omega) (by omega) ⟨⟨by simp [Nm, lk], by simp [Nm, lk]⟩, by simp, by simp⟩ ?_
      simp [St.swap, tmMap, enMap, swp, AV.map, AV.mapL, Ent.map, Row.map, wk, leL, lk, nmT, nmE, nmH, oZ, oF, AV.nmIn, Ent.nmIn, Row.nmIn, IntKind.wrap_i64, List.range_succ]
      exact ⟨by omega, kmap _ E i, knm _ E i⟩
  · obtain rfl : i = n := by omega
    have hn0 : ¬ i = 0 := by omega
    have l1 : ¬ (i : Int) < (i : Int) := by omega
    simp only [oZ, oF, if_neg hn0]
    refine W.seqK fun K0 hK0 => ?_
    refine W.seqK fun K hK => W.regionK tt_ok ?_
    simp only [decide_false, exOps_nil, exOps_cons, exOp_eq, nx_eq, cur_eq, stepQ, ev, lk, putT, erA, inB, opt, bnd, req, ret, onQ, ap, binG, binF, intF, true_and, and_self, Nat.reduceEqDiff, Nat.reduceLT, Nat.reduceAdd, if_true, if_false, l1]
    refine hK _ ?_
    clear hK K
    refine W.cond (b := false) (by simp only [ev, lk, Nat.reduceEqDiff, if_true, if_false]) (fun h => absurd h (by simp)) (fun _ => W.exit ?_)
    simp only [thn_normal, thn_exit, inb_exit, if_true]
    clear hK0 K0
    refine hKz _ ?_
    refine W.seqK fun K hK => W.regionK tt_ok ?_
    simp only [exOps_nil, exOps_cons, exOp_eq, nx_eq, cur_eq, stepQ, ev, ofV, lk, putT, erA, inB, opt, ret, onQ, ap, true_and, Nat.reduceEqDiff, Nat.reduceLT, Nat.reduceAdd, if_true, if_false]
    refine hK _ ?_
    clear hK K
    have hn : i = 1 ∨ i = 2 ∨ i = 3 := by omega
    rcases hn with rfl | rfl | rfl
    · refine W.ret ?_
      simp only [finT_ret, finTB, resQ, lk, opt, bnd, req, ret, onQ, AV.isTup, true_and, and_self, Nat.reduceEqDiff, if_true, if_false, ne_eq]
      simp [vw, vw.vwL, viewL, viewE, viewEL, lk, Ent.row, opt, bnd, req, ret, AV.nmIn, AV.nmInL, show List.range 1 = [0] from rfl, List.map_cons, List.map_nil, partV, keysV]
    · refine W.ret ?_
      simp only [finT_ret, finTB, resQ, lk, opt, bnd, req, ret, onQ, AV.isTup, true_and, and_self, Nat.reduceEqDiff, if_true, if_false, ne_eq]
      simp [vw, vw.vwL, viewL, viewE, viewEL, lk, Ent.row, opt, bnd, req, ret, AV.nmIn, AV.nmInL, show List.range 2 = [0, 1] from rfl, List.map_cons, List.map_nil, partV, keysV]
    · refine W.ret ?_
      simp only [finT_ret, finTB, resQ, lk, opt, bnd, req, ret, onQ, AV.isTup, true_and, and_self, Nat.reduceEqDiff, if_true, if_false, ne_eq]
      simp [vw, vw.vwL, viewL, viewE, viewEL, lk, Ent.row, opt, bnd, req, ret, AV.nmIn, AV.nmInL, show List.range 3 = [0, 1, 2] from rfl, List.map_cons, List.map_nil, partV, keysV]
theorem call27 : Callable Tryd.prog 27 := ⟨_, Tryd.func27, by kernel_rfl, by kernel_rfl⟩
end Go.Proofs.YtageadccfdbmjaaDoor
