/- Skipped keys: Put into none; heads. -/
import Derived.Test.YthnkhdenkagceaaSkF
-- TT 3 4 9 28 33 29 47
-- SIMP viewEL_its nm_its
set_option linter.unusedVariables false
set_option linter.unusedSimpArgs false
namespace Go.Proofs.Ythnkhdenkagceaa
open Sx
set_option maxRecDepth 100000
set_option maxHeartbeats 1000000
theorem put_nil_bad (x : It) (hb : badI x = true) : FnR Try.prog G 10 [.nils, itV x] [] (.tup [.nils, .bool false, .int .i64 2]) [] := by
  have cc := clone_nil
  rw [itV]
  refine FnR.of_walk (m := 39) (n0 := 0) tt_ok Try.func10 rfl rfl (by simp) (by simp [nmH]) ?_
  rw [show Try.f10.results.toList = [.tmp 4, .tmp 5, .tmp 6] from rfl]
  refine W.seqK fun K hK => W.regionK tt_ok ?_
  simp only [exOps_nil, exOps_cons, exOp_eq, nx_eq, cur_eq, stepQ, ev, ofV, lk, parT, putT, erA, inB, opt, req, ret, onQ, ap, up, er, AV.isTup, true_and, and_self, Nat.reduceEqDiff, Nat.reduceLT, Nat.reduceAdd, Nat.zero_add, if_true, if_false, reduceCtorEq]
  refine hK _ ?_
  clear hK K
  refine W.seqK fun K hK => W.regionK tt_ok ?_
  simp only [exOps_cons, exOp_eq, exCall_eq, nx_eq, cur_eq, evL, stepQ, ev, lk, putT, erA, inB, opt, ret, onQ, ap, true_and, Nat.reduceEqDiff, Nat.reduceLT, Nat.reduceAdd, if_true, if_false, reduceCtorEq, Option.bind_some, Option.map_some]
  refine CallK.pure _ _ cc call22 (by simp only [AV.nmIn, bnd, req, ret, onQ, AV.isTup, isTupL, true_and, and_self, Bool.false_eq_true, List.append_nil, vw.vwL, vw, AV.free, Bool.or_self]; all_goals (and_intros <;> first | exact AV.subL_refl _ | omega | (simp [AV.sub]; done) | rfl | (simp [AV.subL_refl]; done) | (simp; exact AV.subL_refl _))) ?_
  simp only [exOps_nil, exOps_cons, exOp_eq, nx_eq, cur_eq, stepQ, ev, lk, putT, erA, inB, opt, ret, onQ, ap, true_and, Nat.reduceEqDiff, Nat.reduceLT, Nat.reduceAdd, if_true, if_false, reduceCtorEq]
  refine hK _ ?_
  clear hK K
  refine W.seqK fun Kz hKz => ?_
  refine W.blockK ?_
  by_cases h1 : x.n < 0
  · refine W.seqK fun K hK => W.regionK tt_ok ?_
    simp only [↓gTF, ↓nTF, decide_true, exOps_nil, exOps_cons, exOp_eq, nx_eq, cur_eq, stepQ, ev, ofV, lk, putT, erA, inB, opt, bnd, req, ret, onQ, ap, binG, binF, intF, pickF, ldP, ldE, ldC, ldS, Kd.agg, comps, csize, takeI, takeC, dropC, fldF, true_and, and_self, Nat.reduceEqDiff, Nat.reduceLT, Nat.reduceLeDiff, Nat.reduceAdd, Nat.reduceSub, Nat.sub_self, Nat.le_refl, Nat.zero_add, if_true, if_false, Bool.false_eq_true, reduceCtorEq, ne_eq, not_false_eq_true, List.getElem?_cons_zero, List.getElem?_cons_succ, Option.bind_some, Option.map_some, tt_3, tt_33, h1]
    refine hK _ ?_
    clear hK K
    refine W.cond (b := true) (by simp only [ev, lk, Nat.reduceEqDiff, if_true, if_false, reduceCtorEq]) (fun _ => ?_) (fun h => absurd h (by simp))
    refine W.seqK fun K hK => W.regionK tt_ok ?_
    simp only [exOps_nil, exOps_cons, exOp_eq, nx_eq, cur_eq, stepQ, ev, ofV, lk, putT, erA, inB, opt, ret, onQ, ap, true_and, Nat.reduceEqDiff, Nat.reduceLT, Nat.reduceAdd, if_true, if_false, reduceCtorEq]
    refine hK _ ?_
    clear hK K
    refine W.ret ?_
    simp only [fin_ret, finB, resQ, resV, leL, AV.nmIn, AV.nmInL, entsIn, lk, opt, bnd, req, ret, onQ, AV.isTup, thn_ret, inb_ret, and_self, Nat.reduceEqDiff, if_true, if_false, reduceCtorEq]
  · have h2 : (x.k.toList == (ByteArray.mk #[]).toList) = true := by
      simp only [badI, h1, decide_false, Bool.false_or, sEq, eS] at hb; exact hb
    refine W.seqK fun K hK => W.regionK tt_ok ?_
    simp only [↓gFF, ↓nFF, decide_false, exOps_nil, exOps_cons, exOp_eq, nx_eq, cur_eq, stepQ, ev, ofV, lk, putT, erA, inB, opt, bnd, req, ret, onQ, ap, binG, binF, intF, strF, pickF, ldP, ldE, ldC, ldS, Kd.agg, comps, csize, takeI, takeC, dropC, fldF, and_true, true_and, and_self, Nat.reduceEqDiff, Nat.reduceLT, Nat.reduceLeDiff, Nat.reduceAdd, Nat.reduceSub, Nat.sub_self, Nat.le_refl, Nat.zero_add, if_true, if_false, Bool.false_eq_true, reduceCtorEq, ne_eq, not_false_eq_true, List.getElem?_cons_zero, List.getElem?_cons_succ, Option.bind_some, Option.map_some, tt_3, tt_9, tt_33, h1, h2]
    refine hK _ ?_
    clear hK K
    refine W.cond (b := true) (by simp only [ev, lk, Nat.reduceEqDiff, if_true, if_false, reduceCtorEq]) (fun _ => ?_) (fun h => absurd h (by simp))
    refine W.seqK fun K hK => W.regionK tt_ok ?_
    simp only [exOps_nil, exOps_cons, exOp_eq, nx_eq, cur_eq, stepQ, ev, ofV, lk, putT, erA, inB, opt, ret, onQ, ap, true_and, Nat.reduceEqDiff, Nat.reduceLT, Nat.reduceAdd, if_true, if_false, reduceCtorEq]
    refine hK _ ?_
    clear hK K
    refine W.ret ?_
    simp only [fin_ret, finB, resQ, resV, leL, AV.nmIn, AV.nmInL, entsIn, lk, opt, bnd, req, ret, onQ, AV.isTup, thn_ret, inb_ret, and_self, Nat.reduceEqDiff, if_true, if_false, reduceCtorEq]
theorem put_nil_new0 (x : It) (hb : badI x = false) : FnR Try.prog G 10 [.nils, itV x] [] (.tup [.sl 384 3 0 1, .bool false, .int .i64 0]) [(384, rw3 [x])] := by
  have cc := clone_nil
  have ch := has_is [] x (by simp)
  rw [show decide (0 ≤ fI (isB x) []) = false from rfl] at ch
  simp only [badI, sEq, eS, Bool.or_eq_false_iff, decide_eq_false_iff_not] at hb
  obtain ⟨h1, h2⟩ := hb
  have cd : FnR Try.prog G 25 [.sl 384 3 0 1, .int .i64 0, .int .i64 0] [(384, rw3 [x])] (.sl 384 3 0 1) [(384, rw3 [x])] := delete_tr 384 0 0 [x] (by simp) (by omega) (by simp)
  have ht1 : ∀ a : AV, List.take 1 (List.drop 0 [a]) = [a] := fun _ => rfl
  have hw : IntKind.i64.wrap (1 - 40) = -39 := by rw [IntKind.wrap_i64]; rfl
  have hw2 : IntKind.i64.wrap (-39) = -39 := by rw [IntKind.wrap_i64]; rfl
  unfold rw3 at *
  simp only [List.map_cons, List.map_nil] at *
  rw [itV] at *
  refine FnR.of_walk (m := 39) (n0 := 0) tt_ok Try.func10 rfl rfl (by simp) (by simp [nmH]) ?_
  rw [show Try.f10.results.toList = [.tmp 4, .tmp 5, .tmp 6] from rfl]
  refine W.seqK fun K hK => W.regionK tt_ok ?_
  simp only [exOps_nil, exOps_cons, exOp_eq, nx_eq, cur_eq, stepQ, ev, ofV, lk, parT, putT, erA, inB, opt, req, ret, onQ, ap, up, er, AV.isTup, true_and, and_self, Nat.reduceEqDiff, Nat.reduceLT, Nat.reduceAdd, Nat.zero_add, if_true, if_false, reduceCtorEq]
  refine hK _ ?_
  clear hK K
  refine W.seqK fun K hK => W.regionK tt_ok ?_
  simp only [exOps_cons, exOp_eq, exCall_eq, nx_eq, cur_eq, evL, stepQ, ev, lk, putT, erA, inB, opt, ret, onQ, ap, true_and, Nat.reduceEqDiff, Nat.reduceLT, Nat.reduceAdd, if_true, if_false, reduceCtorEq, Option.bind_some, Option.map_some]
  refine CallK.pure _ _ cc call22 (by simp only [AV.nmIn, bnd, req, ret, onQ, AV.isTup, isTupL, true_and, and_self, Bool.false_eq_true, List.append_nil, vw.vwL, vw, AV.free, Bool.or_self]; all_goals (and_intros <;> first | exact AV.subL_refl _ | omega | (simp [AV.sub]; done) | rfl | (simp [AV.subL_refl]; done) | (simp; exact AV.subL_refl _))) ?_
  simp only [exOps_nil, exOps_cons, exOp_eq, nx_eq, cur_eq, stepQ, ev, lk, putT, erA, inB, opt, ret, onQ, ap, true_and, Nat.reduceEqDiff, Nat.reduceLT, Nat.reduceAdd, if_true, if_false, reduceCtorEq]
  refine hK _ ?_
  clear hK K
  refine W.seqK fun Kz hKz => ?_
  refine W.blockK ?_
  refine W.seqK fun K hK => W.regionK tt_ok ?_
  simp only [↓gFF, ↓nFF, decide_false, exOps_nil, exOps_cons, exOp_eq, nx_eq, cur_eq, stepQ, ev, ofV, lk, putT, erA, inB, opt, bnd, req, ret, onQ, ap, binG, binF, intF, strF, pickF, ldP, ldE, ldC, ldS, Kd.agg, comps, csize, takeI, takeC, dropC, fldF, and_true, true_and, and_self, Nat.reduceEqDiff, Nat.reduceLT, Nat.reduceLeDiff, Nat.reduceAdd, Nat.reduceSub, Nat.sub_self, Nat.le_refl, Nat.zero_add, if_true, if_false, Bool.false_eq_true, reduceCtorEq, ne_eq, not_false_eq_true, List.getElem?_cons_zero, List.getElem?_cons_succ, Option.bind_some, Option.map_some, tt_3, tt_9, tt_33, h1, h2]
  refine hK _ ?_
  clear hK K
  refine W.cond (b := false) (by simp only [ev, lk, Nat.reduceEqDiff, if_true, if_false, reduceCtorEq]) (fun h => absurd h (by simp)) (fun _ => ?_)
  refine W.seqK fun K hK => W.regionK tt_ok ?_
  simp only [Bool.or_false, exOps_cons, exOp_eq, exCall_eq, nx_eq, cur_eq, evL, stepQ, ev, lk, putT, erA, inB, opt, bnd, req, ret, onQ, ap, AV.isTup, isTupL, ldP, ldE, ldC, ldS, Kd.agg, comps, csize, takeI, takeC, dropC, mkfQ, true_and, and_self, Nat.reduceEqDiff, Nat.reduceLT, Nat.reduceLeDiff, Nat.reduceAdd, Nat.reduceSub, Nat.sub_self, Nat.le_refl, if_true, if_false, reduceCtorEq, Option.bind_some, Option.map_some, tt_33]
  refine CallK.pure _ _ ch call23 (by simp only [AV.nmIn, AV.nmInL, bnd, req, ret, onQ, AV.isTup, isTupL, true_and, and_self, Bool.false_eq_true, List.append_nil, vw.vwL, vw, AV.free, Bool.or_self]; all_goals (and_intros <;> first | exact AV.subL_refl _ | omega | (simp [AV.sub]; done) | rfl | (simp [AV.subL_refl]; done) | (simp; exact AV.subL_refl _))) ?_
  simp only [exOps_nil, exOps_cons, exOp_eq, nx_eq, cur_eq, stepQ, ev, lk, putT, erA, inB, opt, ret, onQ, ap, true_and, Nat.reduceEqDiff, Nat.reduceLT, Nat.reduceAdd, if_true, if_false, reduceCtorEq]
  refine hK _ ?_
  clear hK K
  refine W.cond (b := false) (by simp only [ev, lk, Nat.reduceEqDiff, if_true, if_false, reduceCtorEq]) (fun h => absurd h (by simp)) (fun _ => W.skip ?_)
  simp only [thn_normal, inb_normal]
  refine hKz _ ?_
  refine W.seqK fun K hK => W.regionK tt_ok ?_
  simp only [exOps_nil, exOps_cons, exOp_eq, exCall_eq, nx_eq, cur_eq, evL, evP, stepQ, ev, lk, putT, erA, inB, opt, bnd, req, ret, onQ, ap, up, er, AV.isTup, AV.isAgg, ldP, ldE, ldC, ldS, Kd.agg, comps, szL, csize, takeI, takeC, dropC, stC, stS, bltQ, bltV, appQ, appV, srcQ, Row.len, Row.sz, Row.take, Row.drop, Ent.row, Row.lst, bldA, bslQ, zeroCs, cellsRow, chunks, ones, and_true, true_and, and_self, or_false, Nat.reduceEqDiff, Nat.reduceLT, Nat.reduceLeDiff, Nat.reduceAdd, Nat.reduceSub, Nat.reduceMul, Nat.sub_self, Nat.le_refl, Nat.add_zero, Nat.zero_add, if_true, if_false, cond_true, reduceCtorEq, ne_eq, not_false_eq_true, Option.bind_some, Option.map_some, List.append_nil, List.nil_append, tt_28, tt_33, lit1, beq_self_eq_true, Bool.and_self, List.flatten_cons, List.flatten_nil, List.length_cons, List.length_nil, ht1]
  refine hK _ ?_
  clear hK K
  refine W.seqK fun K hK => W.regionK tt_ok ?_
  simp only [exOps_nil, exOps_cons, exOp_eq, exCall_eq, nx_eq, cur_eq, evL, stepQ, ev, ofV, lk, putT, erA, inB, opt, bnd, req, ret, onQ, ap, binG, binF, intF, bltQ, bltV, lenF, true_and, and_self, or_false, Nat.reduceEqDiff, Nat.reduceLT, Nat.reduceAdd, if_true, if_false, reduceCtorEq, List.getElem?_cons_zero, Option.bind_some, Option.map_some, tt_28]
  refine hK _ ?_
  clear hK K
  refine W.seqK fun K hK => W.regionK tt_ok ?_
  simp only [exOps_cons, exOp_eq, exCall_eq, nx_eq, cur_eq, evL, stepQ, ev, ofV, lk, putT, erA, inB, opt, ret, onQ, ap, true_and, Nat.reduceEqDiff, Nat.reduceLT, Nat.reduceAdd, if_true, if_false, reduceCtorEq, Option.bind_some, Option.map_some]
  refine CallK.with [(384, .vec 33 (.avs 3 [.agg [.str x.h, .int .i64 x.n, .str x.k]]))] [(384, .vec 33 (.avs 3 [.agg [.str x.h, .int .i64 x.n, .str x.k]]))] _ _ cd call25 (by simp only [AV.nmIn, lk, bnd, req, ret, onQ, AV.isTup, isTupL, true_and, and_self, if_true, Bool.false_eq_true, List.append_nil, vw.vwL, vw, AV.free, Bool.or_self]; all_goals (and_intros <;> first | exact AV.subL_refl _ | omega | (simp [AV.sub, entsFree]; done) | rfl | (simp [AV.subL_refl]; done))) (by simp [leL, lk]) (by intro n hn; first | (left; revert hn; simp [Nm, lk]; done) | (right; revert hn; simp only [Nm, lk]; split <;> simp <;> omega) | (by_cases h1 : Nm [(384, .vec 33 (.avs 3 [.agg [.str x.h, .int .i64 x.n, .str x.k]]))] n; exact .inl h1; right; revert hn h1; simp only [Nm, lk]; split <;> (try split) <;> (try split) <;> (try split) <;> (try simp) <;> (try omega))) (by simp [entsIn, Ent.nmIn, Row.nmIn, AV.nmIn, AV.nmInL]) ?_
  simp only [callDel, exOps_nil, exOps_cons, exOp_eq, nx_eq, cur_eq, stepQ, ev, ofV, lk, putT, erA, inB, opt, bnd, req, ret, onQ, ap, up, er, binG, binF, intF, true_and, and_self, Nat.reduceEqDiff, Nat.reduceLT, Nat.reduceAdd, if_true, if_false, reduceCtorEq, List.nil_append, List.cons_append, List.map_cons, List.map_nil, List.reverse_cons, List.reverse_nil]
  refine hK _ ?_
  clear hK K
  refine W.ret ?_
  simp only [fin_ret, finB, resQ, resV, leL, AV.nmIn, AV.nmInL, entsIn, lk, opt, bnd, req, ret, onQ, AV.isTup, and_true, true_and, and_self, Nat.reduceEqDiff, if_true, if_false, reduceCtorEq]
  simp [hw2, Nm, lk, Ent.nmIn, Row.nmIn, AV.nmIn, AV.nmInL]
theorem put_nil_new (Y : Nat) (x : It) (hb : badI x = false) : FnR Try.prog G 10 [.nils, itV x] [] (.tup [.sl Y 3 0 1, .bool false, .int .i64 0]) [(Y, rw3 [x])] := by
  have h := (put_nil_new0 x hb).swap 384 Y
  have e : swp 384 Y 384 = Y := by simp [swp]
  simpa only [List.map_cons, List.map_nil, AV.map, AV.mapL, enMap, rw3, Ent.map, Row.map, itV, e] using h
/-! ### Texts -/
/-- Where the first is. -/
def fG {α : Type} (p : α → Bool) (l : List α) : Int := if l.findIdx p < l.length then (l.findIdx p : Nat) else -1
theorem fG_at {α : Type} {p : α → Bool} {l : List α} {k : Nat} (hk : k < l.length) (hp : p l[k] = true) (hb : ∀ j (h : j < k), p (l[j]'(by omega)) = false) : fG p l = k := by
  have : l.findIdx p = k := by rw [List.findIdx_eq hk]; exact ⟨hp, fun j hj => hb j hj⟩
  rw [fG, this, if_pos hk]
theorem fG_none {α : Type} {p : α → Bool} {l : List α} (hb : ∀ j (h : j < l.length), p l[j] = false) : fG p l = -1 := by
  rw [fG, if_neg]
  intro h
  have := List.findIdx_getElem (w := h)
  rw [hb _ h] at this; cases this
theorem idxS_fn (ss : List ByteArray) (v : ByteArray) (hl : ss.length ≤ 1000000) : FnR Try.prog G 31 [.lstS ss, .str v] [] (.int .i64 (fG (fun t => sEq v t) ss)) [] := by
  refine FnR.of_walk (m := 19) (n0 := 0) tt_ok Try.func31 rfl rfl (by simp) (by simp [nmH]) ?_
  rw [show Try.f31.results.toList = [.tmp 4] from rfl]
  refine W.seqK fun K hK => W.regionK tt_ok ?_
  simp only [exOps_nil, exOps_cons, exOp_eq, nx_eq, cur_eq, stepQ, ev, ofV, parT, putT, erA, inB, opt, ret, onQ, ap, true_and, Nat.reduceEqDiff, Nat.reduceLT, Nat.zero_add, if_false, reduceCtorEq]
  refine hK _ ?_
  clear hK K
  refine W.seqK fun Kx hKx => ?_
  refine W.seqK fun K hK => W.regionK tt_ok ?_
  simp only [exOps_nil, exOps_cons, exOp_eq, exCall_eq, nx_eq, cur_eq, evL, stepQ, ev, ofV, lk, putT, erA, inB, opt, bnd, req, ret, onQ, ap, bltQ, bltV, lenF, true_and, and_self, or_false, Nat.reduceEqDiff, Nat.reduceLT, Nat.reduceAdd, if_true, if_false, reduceCtorEq, List.getElem?_cons_zero, Option.bind_some, Option.map_some, tt_47]
  refine hK _ ?_
  clear hK K
  refine W.blockK ?_
  refine W.loopK (fun k : Nat => k ≤ ss.length ∧ ∀ j (h : j < ss.length), j < k → sEq v ss[j] = false) (fun k => ⟨[(0, .lstS ss), (1, .str v), (7, .int .i64 (ss.length : Nat)), (8, .int .i64 (k : Int))], [], 512, 19⟩) (fun k => ss.length - k) 0 (by simp) (by simp [wk, leL, lk, nmT, nmE, nmH, AV.nmIn]) ?_
  rintro k ⟨hk, hb⟩ K3 hK3
  by_cases hlt : k < ss.length
  · have c1 : (k : Int) < (ss.length : Nat) := by omega
    have he : ss.getD k ByteArray.empty = ss[k] := by simp [List.getD_eq_getElem?_getD, hlt]
    cases hB : sEq v ss[k] with
    | true =>
      have hB' : (v.toList == ss[k].toList) = true := hB
      have hf := fG_at (p := fun t => sEq v t) hlt hB (fun j h => hb j (by omega) h)
      refine W.seqK fun K hK => W.regionK tt_ok ?_
      simp only [decide_true, exOps_nil, exOps_cons, exOp_eq, nx_eq, cur_eq, stepQ, ev, lk, putT, erA, inB, opt, bnd, req, ret, onQ, ap, binG, binF, intF, true_and, and_self, Nat.reduceEqDiff, Nat.reduceLT, Nat.reduceAdd, if_true, if_false, reduceCtorEq, c1]
      refine hK _ ?_
      clear hK K
      refine W.seqK fun K hK => W.cond (b := true) (by simp only [ev, lk, Nat.reduceEqDiff, if_true, if_false, reduceCtorEq]) (fun _ => W.skip ?_) (fun h => absurd h (by simp))
      rw [thn_normal]
      refine hK _ ?_
      clear hK K
      refine W.seqK fun K hK => W.blockK ?_
      refine W.seqK fun K hK => W.regionK tt_ok ?_
      simp only [exOps_nil, exOps_cons, exOp_eq, nx_eq, cur_eq, stepQ, ev, lk, putT, erA, inB, opt, ret, onQ, ap, true_and, Nat.reduceEqDiff, Nat.reduceLT, Nat.reduceAdd, if_true, if_false, reduceCtorEq]
      refine hK _ ?_
      clear hK K
      refine W.seqK fun K hK => W.regionK tt_ok ?_
      simp only [exOps_nil, exOps_cons, exOp_eq, nx_eq, cur_eq, stepQ, ev, lk, putT, erA, inB, opt, bnd, req, ret, onQ, ap, binG, binF, strF, Kd.elem, ixA, asI, ldP, ldC, ldS, Kd.agg, comps, csize, takeI, takeC, dropC, and_true, true_and, and_self, Nat.reduceEqDiff, Nat.reduceLT, Nat.reduceLeDiff, Nat.reduceAdd, Nat.reduceSub, Nat.sub_self, Int.toNat_natCast, Nat.le_refl, if_true, if_false, Bool.false_eq_true, reduceCtorEq, Option.bind_some, Option.map_some, tt_9, tt_47, he, Int.toNat_natCast, hB']
      refine ⟨by omega, ?_⟩
      refine hK _ ?_
      clear hK K
      refine W.cond (b := true) (by simp only [ev, lk, Nat.reduceEqDiff, if_true, if_false, reduceCtorEq]) (fun _ => ?_) (fun h => absurd h (by simp))
      refine W.seqK fun K hK => W.regionK tt_ok ?_
      simp only [exOps_nil, exOps_cons, exOp_eq, nx_eq, cur_eq, stepQ, ev, lk, putT, erA, inB, opt, ret, onQ, ap, true_and, Nat.reduceEqDiff, Nat.reduceLT, Nat.reduceAdd, if_true, if_false, reduceCtorEq]
      refine hK _ ?_
      clear hK K
      refine W.ret ?_
      simp only [fin_ret, finB, resQ, resV, leL, AV.nmIn, entsIn, lk, opt, bnd, req, ret, onQ, AV.isTup, thn_ret, inb_ret, and_true, true_and, and_self, Nat.reduceEqDiff, if_true, if_false, reduceCtorEq]
      rw [hf]
    | false =>
      have hB' : (v.toList == ss[k].toList) = false := hB
      refine W.seqK fun K hK => W.regionK tt_ok ?_
      simp only [decide_true, exOps_nil, exOps_cons, exOp_eq, nx_eq, cur_eq, stepQ, ev, lk, putT, erA, inB, opt, bnd, req, ret, onQ, ap, binG, binF, intF, true_and, and_self, Nat.reduceEqDiff, Nat.reduceLT, Nat.reduceAdd, if_true, if_false, reduceCtorEq, c1]
      refine hK _ ?_
      clear hK K
      refine W.seqK fun K hK => W.cond (b := true) (by simp only [ev, lk, Nat.reduceEqDiff, if_true, if_false, reduceCtorEq]) (fun _ => W.skip ?_) (fun h => absurd h (by simp))
      rw [thn_normal]
      refine hK _ ?_
      clear hK K
      refine W.seqK fun K hK => W.blockK ?_
      refine W.seqK fun K hK => W.regionK tt_ok ?_
      simp only [exOps_nil, exOps_cons, exOp_eq, nx_eq, cur_eq, stepQ, ev, lk, putT, erA, inB, opt, ret, onQ, ap, true_and, Nat.reduceEqDiff, Nat.reduceLT, Nat.reduceAdd, if_true, if_false, reduceCtorEq]
      refine hK _ ?_
      clear hK K
      refine W.seqK fun K hK => W.regionK tt_ok ?_
      simp only [exOps_nil, exOps_cons, exOp_eq, nx_eq, cur_eq, stepQ, ev, lk, putT, erA, inB, opt, bnd, req, ret, onQ, ap, binG, binF, strF, Kd.elem, ixA, asI, ldP, ldC, ldS, Kd.agg, comps, csize, takeI, takeC, dropC, and_true, true_and, and_self, Nat.reduceEqDiff, Nat.reduceLT, Nat.reduceLeDiff, Nat.reduceAdd, Nat.reduceSub, Nat.sub_self, Int.toNat_natCast, Nat.le_refl, if_true, if_false, Bool.false_eq_true, reduceCtorEq, Option.bind_some, Option.map_some, tt_9, tt_47, he, Int.toNat_natCast, hB']
      refine ⟨by omega, ?_⟩
      refine hK _ ?_
      clear hK K
      refine W.cond (b := false) (by simp only [ev, lk, Nat.reduceEqDiff, if_true, if_false, reduceCtorEq]) (fun h => absurd h (by simp)) (fun _ => W.skip ?_)
      simp only [thn_normal, inb_normal]
      refine hK _ ?_
      refine W.region tt_ok ?_
      simp only [exOps_nil, exOps_cons, exOp_eq, nx_eq, cur_eq, stepQ, ev, ofV, lk, putT, erA, inB, opt, bnd, req, ret, onQ, ap, binG, binF, intF, thn_normal, true_and, and_self, Nat.reduceEqDiff, Nat.reduceLT, Nat.reduceAdd, if_true, if_false, reduceCtorEq, wrap_up k (by omega)]
      refine hK3 _ (k + 1) ⟨by omega, fun j h1 h2 => ?_⟩ (by omega) ?_
      · by_cases hjk : j = k
        · subst hjk; exact hB
        · exact hb j h1 (by omega)
      · simp [wk, leL, lk, nmT, nmE, nmH, AV.nmIn]
  have hk' : k = ss.length := by omega
  subst hk'
  have c1 : ¬ ((ss.length : Nat) : Int) < (ss.length : Nat) := by omega
  have hf := fG_none (p := fun t => sEq v t) (fun j h => hb j h h)
  refine W.seqK fun K hK => W.regionK tt_ok ?_
  simp only [decide_false, exOps_nil, exOps_cons, exOp_eq, nx_eq, cur_eq, stepQ, ev, lk, putT, erA, inB, opt, bnd, req, ret, onQ, ap, binG, binF, intF, true_and, and_self, Nat.reduceEqDiff, Nat.reduceLT, Nat.reduceAdd, if_true, if_false, reduceCtorEq, c1]
  refine hK _ ?_
  clear hK K
  refine W.seqK fun K hK => W.cond (b := false) (by simp only [ev, lk, Nat.reduceEqDiff, if_true, if_false, reduceCtorEq]) (fun h => absurd h (by simp)) (fun _ => W.exit ?_)
  simp only [thn_normal, thn_exit, inb_exit, if_true]
  clear hK K
  refine hKx _ ?_
  refine W.seqK fun K hK => W.regionK tt_ok ?_
  simp only [exOps_nil, exOps_cons, exOp_eq, nx_eq, cur_eq, stepQ, ev, ofV, putT, erA, inB, opt, ret, onQ, ap, true_and, Nat.reduceEqDiff, Nat.reduceLT, Nat.reduceAdd, if_false, reduceCtorEq]
  refine hK _ ?_
  clear hK K
  refine W.ret ?_
  simp only [fin_ret, finB, resQ, resV, leL, AV.nmIn, entsIn, lk, opt, bnd, req, ret, onQ, AV.isTup, and_true, true_and, and_self, Nat.reduceEqDiff, if_true, if_false, reduceCtorEq]
  rw [hf]
theorem call31 : Callable Try.prog 31 := ⟨_, Try.func31, by kernel_rfl, by kernel_rfl⟩
def hasS (v : ByteArray) (ss : List ByteArray) : Bool := decide (0 ≤ fG (fun t => sEq v t) ss)
theorem hasS_fn (ss : List ByteArray) (v : ByteArray) (hl : ss.length ≤ 1000000) : FnR Try.prog G 30 [.lstS ss, .str v] [] (.bool (hasS v ss)) [] := by
  have ci := idxS_fn ss v hl
  unfold hasS
  generalize fG (fun t => sEq v t) ss = i at *
  refine FnR.of_walk (m := 9) (n0 := 0) tt_ok Try.func30 rfl rfl (by simp) (by simp [nmH]) ?_
  rw [show Try.f30.results.toList = [.tmp 4] from rfl]
  refine W.seqK fun K hK => W.regionK tt_ok ?_
  simp only [exOps_nil, exOps_cons, exOp_eq, nx_eq, cur_eq, stepQ, ev, ofV, parT, putT, erA, inB, opt, ret, onQ, ap, true_and, Nat.reduceEqDiff, Nat.reduceLT, Nat.zero_add, if_false, reduceCtorEq]
  refine hK _ ?_
  clear hK K
  refine W.seqK fun K hK => W.regionK tt_ok ?_
  simp only [exOps_cons, exOp_eq, exCall_eq, nx_eq, cur_eq, evL, stepQ, ev, lk, putT, erA, inB, opt, ret, onQ, ap, true_and, Nat.reduceEqDiff, Nat.reduceLT, Nat.reduceAdd, if_true, if_false, reduceCtorEq, Option.bind_some, Option.map_some]
  refine CallK.pure _ _ ci call31 (by simp only [AV.nmIn, bnd, req, ret, onQ, AV.isTup, isTupL, true_and, and_self, Bool.false_eq_true, List.append_nil, vw.vwL, vw, AV.free, Bool.or_self]; all_goals (and_intros <;> first | exact AV.subL_refl _ | omega | (simp [AV.sub]; done) | rfl | (simp [AV.subL_refl]; done) | (simp; exact AV.subL_refl _))) ?_
  simp only [exOps_nil, exOps_cons, exOp_eq, nx_eq, cur_eq, stepQ, ev, ofV, lk, putT, erA, inB, opt, bnd, req, ret, onQ, ap, binG, binF, intF, true_and, and_self, Nat.reduceEqDiff, Nat.reduceLT, Nat.reduceAdd, if_true, if_false, reduceCtorEq]
  refine hK _ ?_
  clear hK K
  refine W.ret ?_
  simp only [fin_ret, finB, resQ, resV, leL, AV.nmIn, entsIn, lk, opt, bnd, req, ret, onQ, AV.isTup, and_self, Nat.reduceEqDiff, if_true, if_false, reduceCtorEq]
theorem call30 : Callable Try.prog 30 := ⟨_, Try.func30, by kernel_rfl, by kernel_rfl⟩
end Go.Proofs.Ythnkhdenkagceaa
