/- Skipped keys: the document's Drop. -/
import Derived.Test.YthnkhdenkagceaaSkP
-- TT 3 4 9 22 24 28 33 29 47
-- SIMP viewEL_its nm_its free_its
set_option linter.unusedVariables false
set_option linter.unusedSimpArgs false
namespace Go.Proofs.Ythnkhdenkagceaa
open Sx
set_option maxRecDepth 100000
set_option maxHeartbeats 1000000
/-- What stays, by the loop's rounds. -/
def dpK (h : ByteArray) (l : List It) : Nat → List It
  | 0 => []
  | k + 1 => if sEq (l.getD k default).h h then dpK h l k else dpK h l k ++ [l.getD k default]
theorem dpK_le (h : ByteArray) (l : List It) : ∀ k, (dpK h l k).length ≤ k
  | 0 => by simp [dpK]
  | k + 1 => by
    have := dpK_le h l k
    rw [dpK]; split
    · omega
    · simp; omega
def dpV (X : Nat) (n : Nat) : AV := if n = 0 then .nils else .sl X 3 0 n
def dpE (X : Nat) (l : List It) : List (Nat × Ent) := if l.length = 0 then [] else [(X, .vec 24 (.avs 3 (l.map itV)))]
def dpI (h : ByteArray) (l : List It) (k : Nat) : St := ⟨[(0, .lst 3 (l.map itV)), (1, .str h), (6, dpV 200 (dpK h l k).length), (7, .int .i64 (k : Int))], dpE 200 (dpK h l k), 512, 34⟩
theorem rdrop0 (l : List It) (h : ByteArray) (hl : l.length ≤ 1000000) : FnR Try.prog G 16 [.lst 3 (l.map itV), .str h] [] (.tup [dpV 200 (dpK h l l.length).length, .int .i64 ((l.length : Int) - (dpK h l l.length).length)]) (dpE 200 (dpK h l l.length)) := by
  have hml : (l.map itV).length = l.length := List.length_map ..
  refine FnR.of_walk (m := 34) (n0 := 0) tt_ok Try.func16 rfl rfl (by simp) (by simp [nmH]) ?_
  rw [show Try.f16.results.toList = [.tmp 4, .tmp 5] from rfl]
  refine W.seqK fun K hK => W.regionK tt_ok ?_
  simp only [exOps_nil, exOps_cons, exOp_eq, nx_eq, cur_eq, stepQ, ev, ofV, parT, putT, erA, inB, opt, ret, onQ, ap, true_and, Nat.reduceEqDiff, Nat.reduceLT, Nat.reduceAdd, Nat.zero_add, if_false, reduceCtorEq]
  refine hK _ ?_
  clear hK K
  refine W.seqK fun K hK => W.regionK tt_ok ?_
  simp only [exOps_nil, exOps_cons, exOp_eq, nx_eq, cur_eq, stepQ, ev, ofV, putT, erA, inB, opt, ret, onQ, ap, true_and, Nat.reduceEqDiff, Nat.reduceLT, Nat.reduceAdd, if_false, reduceCtorEq]
  refine hK _ ?_
  clear hK K
  refine W.seqK fun Kx hKx => ?_
  refine W.seqK fun K hK => W.regionK tt_ok ?_
  simp only [exOps_nil, exOps_cons, exOp_eq, nx_eq, cur_eq, stepQ, ev, ofV, putT, erA, inB, opt, ret, onQ, ap, true_and, Nat.reduceEqDiff, Nat.reduceLT, Nat.reduceAdd, if_false, reduceCtorEq]
  refine hK _ ?_
  clear hK K
  refine W.blockK ?_
  refine W.loopS (fun k : Nat => k ≤ l.length) (dpI h l) (fun k => l.length - k) 0 (by simp) (by simp [dpI, dpV, dpE, dpK, wk, leL, lk, nmT, nmE, nmH, AV.nmIn]) ?_
  intro k hk K3 hK3
  have hle := dpK_le h l k
  by_cases hlt : k < l.length
  · have c1 : (k : Int) < (l.length : Nat) := by omega
    have he := it_get l k hlt
    have hg : l.getD k default = l[k] := by simp [List.getD_eq_getElem?_getD, hlt]
    have hs : dpK h l (k + 1) = if sEq l[k].h h then dpK h l k else dpK h l k ++ [l[k]] := by rw [dpK, hg]
    have ht1 : ∀ a : AV, List.take 1 (List.drop 0 [a]) = [a] := fun _ => rfl
    generalize hT1 : dpK h l (k + 1) = H1 at *
    generalize hT0 : dpK h l k = H at *
    generalize hy : l[k] = y at *
    have hmH : (H.map itV).length = H.length := List.length_map ..
    have htH : List.take H.length (H.map itV) = H.map itV := List.take_of_length_le (by simp)
    have happ := append_its H y
    cases hb : sEq y.h h with
    | true =>
      have hb' : (y.h.toList == h.toList) = true := hb
      rw [hb, if_pos rfl] at hs
      by_cases hk0 : H.length = 0
      · simp only [dpI, hT0, dpV, dpE, if_pos hk0]
        refine W.seqK fun K0 hK0 => ?_
        refine W.seqK fun K hK => W.regionK tt_ok ?_
        simp only [decide_true, exOps_nil, exOps_cons, exOp_eq, exCall_eq, nx_eq, cur_eq, evL, stepQ, ev, lk, putT, erA, inB, opt, bnd, req, ret, onQ, ap, binG, binF, intF, bltQ, bltV, lenF, true_and, and_self, or_false, Nat.reduceEqDiff, Nat.reduceLT, Nat.reduceAdd, if_true, if_false, reduceCtorEq, List.getElem?_cons_zero, Option.bind_some, Option.map_some, tt_22, hml, c1]
        refine hK _ ?_
        clear hK K
        refine W.cond (b := true) (by simp only [ev, lk, Nat.reduceEqDiff, if_true, if_false, reduceCtorEq]) (fun _ => W.skip ?_) (fun h => absurd h (by simp))
        rw [thn_normal]
        refine hK0 _ ?_
        clear hK0 K0
        refine W.seqK fun K hK => W.blockK ?_
        refine W.seqK fun K hK => W.regionK tt_ok ?_
        simp only [Bool.not_true, exOps_nil, exOps_cons, exOp_eq, nx_eq, cur_eq, stepQ, ev, lk, putT, erA, inB, opt, bnd, req, ret, onQ, ap, binG, binF, strF, Kd.elem, ixA, asI, ldP, ldC, ldS, Kd.agg, comps, csize, takeI, takeC, dropC, fldF, and_true, true_and, and_self, Nat.reduceEqDiff, Nat.reduceLT, Nat.reduceLeDiff, Nat.reduceAdd, Nat.reduceSub, Nat.sub_self, Int.toNat_natCast, Nat.le_refl, if_true, if_false, Bool.false_eq_true, reduceCtorEq, ne_eq, not_false_eq_true, List.getElem?_cons_zero, Option.bind_some, Option.map_some, tt_9, tt_22, tt_24, he, hml, Int.toNat_natCast, hb']
        repeat (refine ⟨by omega, ?_⟩)
        refine hK _ ?_
        clear hK K
        refine W.cond (b := false) (by simp only [ev, lk, Nat.reduceEqDiff, if_true, if_false, reduceCtorEq]) (fun h => absurd h (by simp)) (fun _ => W.skip ?_)
        simp only [thn_normal, inb_normal]
        refine hK _ ?_
        refine W.region tt_ok ?_
        simp only [exOps_nil, exOps_cons, exOp_eq, nx_eq, cur_eq, stepQ, ev, ofV, lk, putT, erA, inB, opt, bnd, req, ret, onQ, ap, binG, binF, intF, thn_normal, true_and, and_self, Nat.reduceEqDiff, Nat.reduceLT, Nat.reduceAdd, if_true, if_false, reduceCtorEq, wrap_up k (by omega)]
        refine hK3 _ (k + 1) 200 200 (by omega) (by omega) ⟨⟨by simp [Nm, lk], by simp [Nm, lk]⟩, by simp, by simp⟩ ?_
        simp [dpI, dpV, dpE, hk0, hT1, hs, St.swap, tmMap, enMap, AV.map, wk, leL, lk, nmT, nmE, nmH, AV.nmIn]
      · simp only [dpI, hT0, dpV, dpE, if_neg hk0]
        refine W.seqK fun K0 hK0 => ?_
        refine W.seqK fun K hK => W.regionK tt_ok ?_
        simp only [decide_true, exOps_nil, exOps_cons, exOp_eq, exCall_eq, nx_eq, cur_eq, evL, stepQ, ev, lk, putT, erA, inB, opt, bnd, req, ret, onQ, ap, binG, binF, intF, bltQ, bltV, lenF, true_and, and_self, or_false, Nat.reduceEqDiff, Nat.reduceLT, Nat.reduceAdd, if_true, if_false, reduceCtorEq, List.getElem?_cons_zero, Option.bind_some, Option.map_some, tt_22, hml, c1]
        refine hK _ ?_
        clear hK K
        refine W.cond (b := true) (by simp only [ev, lk, Nat.reduceEqDiff, if_true, if_false, reduceCtorEq]) (fun _ => W.skip ?_) (fun h => absurd h (by simp))
        rw [thn_normal]
        refine hK0 _ ?_
        clear hK0 K0
        refine W.seqK fun K hK => W.blockK ?_
        refine W.seqK fun K hK => W.regionK tt_ok ?_
        simp only [Bool.not_true, exOps_nil, exOps_cons, exOp_eq, nx_eq, cur_eq, stepQ, ev, lk, putT, erA, inB, opt, bnd, req, ret, onQ, ap, binG, binF, strF, Kd.elem, ixA, asI, ldP, ldC, ldS, Kd.agg, comps, csize, takeI, takeC, dropC, fldF, and_true, true_and, and_self, Nat.reduceEqDiff, Nat.reduceLT, Nat.reduceLeDiff, Nat.reduceAdd, Nat.reduceSub, Nat.sub_self, Int.toNat_natCast, Nat.le_refl, if_true, if_false, Bool.false_eq_true, reduceCtorEq, ne_eq, not_false_eq_true, List.getElem?_cons_zero, Option.bind_some, Option.map_some, tt_9, tt_22, tt_24, he, hml, Int.toNat_natCast, hb']
        repeat (refine ⟨by omega, ?_⟩)
        refine hK _ ?_
        clear hK K
        refine W.cond (b := false) (by simp only [ev, lk, Nat.reduceEqDiff, if_true, if_false, reduceCtorEq]) (fun h => absurd h (by simp)) (fun _ => W.skip ?_)
        simp only [thn_normal, inb_normal]
        refine hK _ ?_
        refine W.region tt_ok ?_
        simp only [exOps_nil, exOps_cons, exOp_eq, nx_eq, cur_eq, stepQ, ev, ofV, lk, putT, erA, inB, opt, bnd, req, ret, onQ, ap, binG, binF, intF, thn_normal, true_and, and_self, Nat.reduceEqDiff, Nat.reduceLT, Nat.reduceAdd, if_true, if_false, reduceCtorEq, wrap_up k (by omega)]
        refine hK3 _ (k + 1) 200 200 (by omega) (by omega) ⟨⟨by simp [Nm, lk], by simp [Nm, lk]⟩, by simp, by simp⟩ ?_
        simp [dpI, dpV, dpE, hk0, hT1, hs, St.swap, tmMap, enMap, swp, AV.map, Ent.map, Row.map, wk, leL, lk, nmT, nmE, nmH, AV.nmIn, Ent.nmIn, Row.nmIn, nm_its, ml_its]
    | false =>
      have hb' : (y.h.toList == h.toList) = false := hb
      rw [hb, if_neg (by simp)] at hs
      rw [← hs] at happ
      have hH1 : H1.length = H.length + 1 := by rw [hs]; simp
      have hn1 : ¬ H1.length = 0 := by omega
      rw [itV] at happ
      by_cases hk0 : H.length = 0
      · simp only [dpI, hT0, dpV, dpE, if_pos hk0]
        refine W.seqK fun K0 hK0 => ?_
        refine W.seqK fun K hK => W.regionK tt_ok ?_
        simp only [decide_true, exOps_nil, exOps_cons, exOp_eq, exCall_eq, nx_eq, cur_eq, evL, stepQ, ev, lk, putT, erA, inB, opt, bnd, req, ret, onQ, ap, binG, binF, intF, bltQ, bltV, lenF, true_and, and_self, or_false, Nat.reduceEqDiff, Nat.reduceLT, Nat.reduceAdd, if_true, if_false, reduceCtorEq, List.getElem?_cons_zero, Option.bind_some, Option.map_some, tt_22, hml, c1]
        refine hK _ ?_
        clear hK K
        refine W.cond (b := true) (by simp only [ev, lk, Nat.reduceEqDiff, if_true, if_false, reduceCtorEq]) (fun _ => W.skip ?_) (fun h => absurd h (by simp))
        rw [thn_normal]
        refine hK0 _ ?_
        clear hK0 K0
        refine W.seqK fun K hK => W.blockK ?_
        refine W.seqK fun K hK => W.regionK tt_ok ?_
        simp only [Bool.not_false, exOps_nil, exOps_cons, exOp_eq, nx_eq, cur_eq, stepQ, ev, lk, putT, erA, inB, opt, bnd, req, ret, onQ, ap, binG, binF, strF, Kd.elem, ixA, asI, ldP, ldC, ldS, Kd.agg, comps, csize, takeI, takeC, dropC, fldF, and_true, true_and, and_self, Nat.reduceEqDiff, Nat.reduceLT, Nat.reduceLeDiff, Nat.reduceAdd, Nat.reduceSub, Nat.sub_self, Int.toNat_natCast, Nat.le_refl, if_true, if_false, Bool.false_eq_true, reduceCtorEq, ne_eq, not_false_eq_true, List.getElem?_cons_zero, Option.bind_some, Option.map_some, tt_9, tt_22, tt_24, he, hml, Int.toNat_natCast, hb']
        repeat (refine ⟨by omega, ?_⟩)
        refine hK _ ?_
        clear hK K
        refine W.cond (b := true) (by simp only [ev, lk, Nat.reduceEqDiff, if_true, if_false, reduceCtorEq]) (fun _ => ?_) (fun h => absurd h (by simp))
        refine W.region tt_ok ?_
        simp only [exOps_nil, exOps_cons, exOp_eq, exCall_eq, nx_eq, cur_eq, evL, evP, stepQ, ev, lk, putT, erA, inB, opt, bnd, req, ret, onQ, ap, up, er, AV.isTup, AV.isAgg, Kd.elem, ixA, asI, ldP, ldC, ldS, Kd.agg, comps, szL, csize, takeI, takeC, dropC, stC, stS, bltQ, bltV, appQ, appV, srcQ, Row.len, Row.sz, Row.take, Row.drop, Ent.row, Row.lst, bldA, bslQ, zeroCs, cellsRow, chunks, ones, thn_normal, inb_normal, and_true, true_and, and_self, or_false, Nat.reduceEqDiff, Nat.reduceLT, Nat.reduceLeDiff, Nat.reduceAdd, Nat.reduceSub, Nat.reduceMul, Nat.sub_self, Int.toNat_natCast, Nat.le_refl, Nat.add_zero, Nat.zero_add, if_true, if_false, cond_true, reduceCtorEq, ne_eq, not_false_eq_true, Option.bind_some, Option.map_some, List.append_nil, List.nil_append, tt_22, tt_24, he, hml, Int.toNat_natCast, lit1, beq_self_eq_true, Bool.and_self, List.flatten_cons, List.flatten_nil, List.length_cons, List.length_nil, ht1]
        repeat (refine ⟨by omega, ?_⟩)
        refine hK _ ?_
        clear hK K
        refine W.region tt_ok ?_
        simp only [exOps_nil, exOps_cons, exOp_eq, nx_eq, cur_eq, stepQ, ev, ofV, lk, putT, erA, inB, opt, bnd, req, ret, onQ, ap, binG, binF, intF, thn_normal, true_and, and_self, Nat.reduceEqDiff, Nat.reduceLT, Nat.reduceAdd, if_true, if_false, reduceCtorEq, wrap_up k (by omega)]
        refine hK3 _ (k + 1) 784 200 (by omega) (by omega) ⟨⟨by simp [Nm, lk], by simp [Nm, lk]⟩, by simp, by simp⟩ ?_
        have hH0 : H = [] := List.length_eq_zero_iff.1 hk0
        rw [hH0, List.map_nil, List.nil_append] at happ
        rw [hH0, List.length_nil] at hH1
        simp [← happ, dpI, dpV, dpE, hH1, hT1, St.swap, tmMap, enMap, swp, AV.map, AV.mapL, Ent.map, Row.map, wk, leL, lk, nmT, nmE, nmH, AV.nmIn, AV.nmInL, Ent.nmIn, Row.nmIn]
      · simp only [dpI, hT0, dpV, dpE, if_neg hk0]
        refine W.seqK fun K0 hK0 => ?_
        refine W.seqK fun K hK => W.regionK tt_ok ?_
        simp only [decide_true, exOps_nil, exOps_cons, exOp_eq, exCall_eq, nx_eq, cur_eq, evL, stepQ, ev, lk, putT, erA, inB, opt, bnd, req, ret, onQ, ap, binG, binF, intF, bltQ, bltV, lenF, true_and, and_self, or_false, Nat.reduceEqDiff, Nat.reduceLT, Nat.reduceAdd, if_true, if_false, reduceCtorEq, List.getElem?_cons_zero, Option.bind_some, Option.map_some, tt_22, hml, c1]
        refine hK _ ?_
        clear hK K
        refine W.cond (b := true) (by simp only [ev, lk, Nat.reduceEqDiff, if_true, if_false, reduceCtorEq]) (fun _ => W.skip ?_) (fun h => absurd h (by simp))
        rw [thn_normal]
        refine hK0 _ ?_
        clear hK0 K0
        refine W.seqK fun K hK => W.blockK ?_
        refine W.seqK fun K hK => W.regionK tt_ok ?_
        simp only [Bool.not_false, exOps_nil, exOps_cons, exOp_eq, nx_eq, cur_eq, stepQ, ev, lk, putT, erA, inB, opt, bnd, req, ret, onQ, ap, binG, binF, strF, Kd.elem, ixA, asI, ldP, ldC, ldS, Kd.agg, comps, csize, takeI, takeC, dropC, fldF, and_true, true_and, and_self, Nat.reduceEqDiff, Nat.reduceLT, Nat.reduceLeDiff, Nat.reduceAdd, Nat.reduceSub, Nat.sub_self, Int.toNat_natCast, Nat.le_refl, if_true, if_false, Bool.false_eq_true, reduceCtorEq, ne_eq, not_false_eq_true, List.getElem?_cons_zero, Option.bind_some, Option.map_some, tt_9, tt_22, tt_24, he, hml, Int.toNat_natCast, hb']
        repeat (refine ⟨by omega, ?_⟩)
        refine hK _ ?_
        clear hK K
        refine W.cond (b := true) (by simp only [ev, lk, Nat.reduceEqDiff, if_true, if_false, reduceCtorEq]) (fun _ => ?_) (fun h => absurd h (by simp))
        refine W.region tt_ok ?_
        simp only [exOps_nil, exOps_cons, exOp_eq, exCall_eq, nx_eq, cur_eq, evL, evP, stepQ, ev, lk, putT, erA, inB, opt, bnd, req, ret, onQ, ap, up, er, AV.isTup, AV.isAgg, Kd.elem, ixA, asI, ldP, ldC, ldS, Kd.agg, comps, szL, csize, takeI, takeC, dropC, stC, stS, bltQ, bltV, appR, appQ, appV, srcQ, Row.len, Row.sz, Row.take, Row.drop, Row.app, Ent.row, bldA, bslQ, zeroCs, cellsRow, chunks, ones, thn_normal, inb_normal, and_true, true_and, and_self, or_false, Nat.reduceEqDiff, Nat.reduceLT, Nat.reduceLeDiff, Nat.reduceAdd, Nat.reduceSub, Nat.reduceMul, Nat.sub_self, Int.toNat_natCast, Nat.le_refl, Nat.add_zero, Nat.zero_add, if_true, if_false, cond_true, reduceCtorEq, Option.bind_some, Option.map_some, List.append_nil, List.nil_append, tt_22, tt_24, he, hml, Int.toNat_natCast, lit1, beq_self_eq_true, Bool.and_self, List.flatten_cons, List.flatten_nil, List.length_cons, List.length_nil, ht1, htH, hmH, happ]
        repeat (refine ⟨by omega, ?_⟩)
        refine hK _ ?_
        clear hK K
        refine W.region tt_ok ?_
        simp only [exOps_nil, exOps_cons, exOp_eq, nx_eq, cur_eq, stepQ, ev, ofV, lk, putT, erA, inB, opt, bnd, req, ret, onQ, ap, binG, binF, intF, thn_normal, true_and, and_self, Nat.reduceEqDiff, Nat.reduceLT, Nat.reduceAdd, if_true, if_false, reduceCtorEq, wrap_up k (by omega)]
        refine hK3 _ (k + 1) 784 200 (by omega) (by omega) ⟨⟨by simp [Nm, lk], by simp [Nm, lk]⟩, by simp, by simp⟩ ?_
        simp [dpI, dpV, dpE, hH1, hT1, St.swap, tmMap, enMap, swp, AV.map, AV.mapL, Ent.map, Row.map, wk, leL, lk, nmT, nmE, nmH, AV.nmIn, Ent.nmIn, Row.nmIn, nm_its, ml_its]
  have hk' : k = l.length := by omega
  subst hk'
  have c1 : ¬ ((l.length : Nat) : Int) < (l.length : Nat) := by omega
  generalize hT0 : dpK h l l.length = H at *
  have hw : IntKind.i64.wrap ((l.length : Int) - (H.length : Nat)) = (l.length : Int) - (H.length : Nat) := by rw [IntKind.wrap_i64]; omega
  by_cases hk0 : H.length = 0
  · have hw : IntKind.i64.wrap ((l.length : Int) - 0) = (l.length : Int) - ((H.length : Nat) : Int) := by rw [IntKind.wrap_i64]; omega
    simp only [dpI, hT0, dpV, dpE, if_pos hk0]
    refine W.seqK fun K0 hK0 => ?_
    refine W.seqK fun K hK => W.regionK tt_ok ?_
    simp only [decide_false, exOps_nil, exOps_cons, exOp_eq, exCall_eq, nx_eq, cur_eq, evL, stepQ, ev, lk, putT, erA, inB, opt, bnd, req, ret, onQ, ap, binG, binF, intF, bltQ, bltV, lenF, true_and, and_self, or_false, Nat.reduceEqDiff, Nat.reduceLT, Nat.reduceAdd, if_true, if_false, reduceCtorEq, List.getElem?_cons_zero, Option.bind_some, Option.map_some, tt_22, hml, c1]
    refine hK _ ?_
    clear hK K
    refine W.cond (b := false) (by simp only [ev, lk, Nat.reduceEqDiff, if_true, if_false, reduceCtorEq]) (fun h => absurd h (by simp)) (fun _ => W.exit ?_)
    simp only [thn_normal, thn_exit, inb_exit, if_true]
    clear hK0 K0
    refine hKx _ ?_
    refine W.seqK fun K hK => W.regionK tt_ok ?_
    simp only [exOps_nil, exOps_cons, exOp_eq, exCall_eq, nx_eq, cur_eq, evL, stepQ, ev, lk, putT, erA, inB, opt, bnd, req, ret, onQ, ap, binG, binF, intF, bltQ, bltV, lenF, true_and, and_self, or_false, Nat.reduceEqDiff, Nat.reduceLT, Nat.reduceAdd, if_true, if_false, reduceCtorEq, List.getElem?_cons_zero, Option.bind_some, Option.map_some, tt_22, hml, hw]
    refine hK _ ?_
    clear hK K
    refine W.ret ?_
    simp only [fin_ret, finB, resQ, resV, AV.nmIn, AV.nmInL, lk, opt, bnd, req, ret, onQ, AV.isTup, and_true, true_and, and_self, Nat.reduceEqDiff, if_true, if_false, reduceCtorEq]
    simp [dpV, dpE, hk0, leL, entsIn, AV.nmIn]
  · simp only [dpI, hT0, dpV, dpE, if_neg hk0]
    refine W.seqK fun K0 hK0 => ?_
    refine W.seqK fun K hK => W.regionK tt_ok ?_
    simp only [decide_false, exOps_nil, exOps_cons, exOp_eq, exCall_eq, nx_eq, cur_eq, evL, stepQ, ev, lk, putT, erA, inB, opt, bnd, req, ret, onQ, ap, binG, binF, intF, bltQ, bltV, lenF, true_and, and_self, or_false, Nat.reduceEqDiff, Nat.reduceLT, Nat.reduceAdd, if_true, if_false, reduceCtorEq, List.getElem?_cons_zero, Option.bind_some, Option.map_some, tt_22, hml, c1]
    refine hK _ ?_
    clear hK K
    refine W.cond (b := false) (by simp only [ev, lk, Nat.reduceEqDiff, if_true, if_false, reduceCtorEq]) (fun h => absurd h (by simp)) (fun _ => W.exit ?_)
    simp only [thn_normal, thn_exit, inb_exit, if_true]
    clear hK0 K0
    refine hKx _ ?_
    refine W.seqK fun K hK => W.regionK tt_ok ?_
    simp only [exOps_nil, exOps_cons, exOp_eq, exCall_eq, nx_eq, cur_eq, evL, stepQ, ev, lk, putT, erA, inB, opt, bnd, req, ret, onQ, ap, binG, binF, intF, bltQ, bltV, lenF, true_and, and_self, or_false, Nat.reduceEqDiff, Nat.reduceLT, Nat.reduceAdd, if_true, if_false, reduceCtorEq, List.getElem?_cons_zero, Option.bind_some, Option.map_some, tt_22, hml, hw]
    refine hK _ ?_
    clear hK K
    refine W.ret ?_
    simp only [fin_ret, finB, resQ, resV, AV.nmIn, AV.nmInL, lk, opt, bnd, req, ret, onQ, AV.isTup, and_true, true_and, and_self, Nat.reduceEqDiff, if_true, if_false, reduceCtorEq]
    simp [dpV, dpE, hk0, Nm, lk, leL, entsIn, Ent.nmIn, Row.nmIn, AV.nmIn, nm_its]
theorem call16 : Callable Try.prog 16 := ⟨_, Try.func16, by kernel_rfl, by kernel_rfl⟩
end Go.Proofs.Ythnkhdenkagceaa
