/- The document's first primes. -/
import Derived.Test.YtageadccfdbmjaaDoorRsG
-- TT 2 3 4 5 22 26 28 59 71
set_option linter.unusedVariables false
set_option linter.unusedSimpArgs false
namespace Go.Proofs.YtageadccfdbmjaaDoor
open Sx
set_option maxRecDepth 100000
set_option maxHeartbeats 1000000
def nd (p q : Int) : Bool := !(p.tmod q == 0)
def prm (L : List Int) (p : Int) : Bool := L.all (nd p)
theorem prK_s (k : Nat) : prK (k + 1) = if prm (prK k) ((k + 2 : Nat) : Int) then prK k ++ [((k + 2 : Nat) : Int)] else prK k := rfl
theorem prK_ge : ∀ k q, q ∈ prK k → 2 ≤ q
  | 0, q, h => by cases h
  | k + 1, q, h => by
    rw [prK_s] at h
    split at h
    · rcases List.mem_append.1 h with h | h
      · exact prK_ge k q h
      · rw [List.mem_singleton] at h; omega
    · exact prK_ge k q h
theorem prK_len : ∀ k, (prK k).length ≤ k ∧ (k ≠ 0 → (prK k).length ≠ 0)
  | 0 => ⟨by simp [prK], fun h => absurd rfl h⟩
  | k + 1 => by
    have ih := prK_len k
    by_cases hk : k = 0
    · subst hk; decide
    · have := ih.2 hk
      rw [prK_s]; split
      · rw [List.length_append, List.length_singleton]; exact ⟨by omega, fun _ => by omega⟩
      · exact ⟨by omega, fun _ => this⟩
def prT (L : List Int) (p : Int) (i : Nat) : Bool := (L.take i).all (nd p)
theorem prT_s (L : List Int) (p : Int) (i : Nat) (h : i < L.length) : prT L p (i + 1) = (prT L p i && nd p (L.getD i 0)) := by
  rw [prT, List.take_succ_eq_append_getElem h, List.all_append, List.all_cons, List.all_nil, Bool.and_true, show L.getD i 0 = L[i] by simp [List.getD_eq_getElem?_getD, h]]; rfl
theorem prT_all (L : List Int) (p : Int) : prT L p L.length = prm L p := by rw [prT, List.take_length]; rfl
theorem primes_fn0 (N K : Nat) (hK : K ≤ 400) (h1 : ∀ k, k < K → (prK k).length < N) (h2 : (prK K).length = N) (h0 : K ≠ 0) : FnR Tryd.prog G 38 [.int .i64 (N : Int)] [] (.sl 200 1 0 N) [(200, .vec 28 (.ints .u64 (prK K)))] := by
  have ht1 : ∀ x : Int, List.take 1 (List.drop 0 [x]) = [x] := fun _ => rfl
  have hNK : N ≤ K := by have := (prK_len K).1; omega
  refine FnR.of_walk (m := 35) (n0 := 0) tt_ok Tryd.func38 rfl rfl (by simp) (by simp [nmH]) ?_
  rw [show Tryd.f38.results.toList = [.tmp 2] from rfl]
  refine W.seqK fun K hK => W.regionK tt_ok ?_
  simp only [exOps_nil, exOps_cons, exOp_eq, nx_eq, cur_eq, stepQ, ev, ofV, parT, putT, erA, inB, opt, ret, onQ, ap, true_and, Nat.reduceLT, Nat.zero_add, if_false, reduceCtorEq]
  refine hK _ ?_
  clear hK K
  refine W.seqK fun K hK => W.regionK tt_ok ?_
  simp only [exOps_nil, exOps_cons, exOp_eq, nx_eq, cur_eq, stepQ, ev, ofV, putT, erA, inB, opt, ret, onQ, ap, true_and, Nat.reduceEqDiff, Nat.reduceLT, Nat.reduceAdd, if_false, reduceCtorEq]
  refine hK _ ?_
  clear hK K
  refine W.seqK fun Kx hKx => ?_
  refine W.seqK fun K hK => W.regionK tt_ok ?_
  simp only [exOps_nil, exOps_cons, exOp_eq, nx_eq, cur_eq, stepQ, ev, ofV, putT, erA, inB, opt, ret, onQ, ap, true_and, Nat.reduceEqDiff, Nat.reduceLT, Nat.reduceAdd, if_false, reduceCtorEq]
  refine hK _ ?_
  clear hK K
  refine W.blockK ?_
  refine W.loopS (fun k : Nat => k ≤ K) (fun k => ⟨[(0, .int .i64 (N : Int)), (3, if k = 0 then .nils else .sl 200 1 0 (prK k).length), (4, .int .u64 ((k + 2 : Nat) : Int))], if k = 0 then [] else [(200, .vec 28 (.ints .u64 (prK k)))], 512, 35⟩) (fun k => K - k) 0 (by simp) (by simp [wk, leL, lk, nmT, nmE, nmH, AV.nmIn]) ?_
  intro k hk K3 hK3
  obtain ⟨l1, l2⟩ := prK_len k
  have hge := prK_ge k
  by_cases hlt : k < K
  · have hs := prK_s k
    have c1 := h1 k hlt
    have c1' : ((prK k).length : Int) < (N : Int) := by omega
    have hw : IntKind.u64.wrap (((k + 2 : Nat) : Int) + 1) = ((k + 1 + 2 : Nat) : Int) := by rw [IntKind.wrap_u64]; omega
    by_cases hk0 : k = 0
    · have hN0 : (0 : Int) < (N : Int) := by omega
      have hs1 : prK (k + 1) = [((k + 2 : Nat) : Int)] := by subst hk0; rfl
      have w0 : ¬ ((0 : Int) < ((0 : Nat) : Int)) := by omega
      simp only [if_pos hk0]
      refine W.seqK fun K0 hK0 => ?_
      refine W.seqK fun K hK => W.regionK tt_ok ?_
      simp only [decide_true, exOps_nil, exOps_cons, exOp_eq, exCall_eq, nx_eq, cur_eq, evL, stepQ, ev, lk, putT, erA, inB, opt, bnd, req, ret, onQ, ap, binG, binF, intF, bltQ, bltV, lenF, true_and, and_self, or_false, Nat.reduceEqDiff, Nat.reduceLT, Nat.reduceAdd, if_true, if_false, reduceCtorEq, List.getElem?_cons_zero, Option.bind_some, Option.map_some, tt_71, hN0]
      refine hK _ ?_
      clear hK K
      refine W.cond (b := true) (by simp only [ev, lk, Nat.reduceEqDiff, if_true, if_false, reduceCtorEq]) (fun _ => W.skip ?_) (fun h => absurd h (by simp))
      rw [thn_normal]
      refine hK0 _ ?_
      clear hK0 K0
      refine W.seqK fun K hK => W.blockK ?_
      refine W.seqK fun K hK => W.regionK tt_ok ?_
      simp only [exOps_nil, exOps_cons, exOp_eq, nx_eq, cur_eq, stepQ, ev, ofV, putT, erA, inB, opt, ret, onQ, ap, true_and, Nat.reduceEqDiff, Nat.reduceLT, Nat.reduceAdd, if_false, reduceCtorEq]
      refine hK _ ?_
      clear hK K
      refine W.seqK fun Ky hKy => ?_
      refine W.seqK fun K hK => W.regionK tt_ok ?_
      simp only [exOps_nil, exOps_cons, exOp_eq, nx_eq, cur_eq, stepQ, ev, ofV, putT, erA, inB, opt, ret, onQ, ap, true_and, Nat.reduceEqDiff, Nat.reduceLT, Nat.reduceAdd, if_false, reduceCtorEq]
      refine hK _ ?_
      clear hK K
      refine W.blockK ?_
      refine W.rounds 1 (WR.next fun K4 hK4 => ?_)
      refine W.seqK fun K0 hK0 => ?_
      refine W.seqK fun K hK => W.regionK tt_ok ?_
      simp only [decide_false, exOps_nil, exOps_cons, exOp_eq, exCall_eq, nx_eq, cur_eq, evL, stepQ, ev, lk, putT, erA, inB, opt, bnd, req, ret, onQ, ap, binG, binF, intF, bltQ, bltV, lenF, true_and, and_self, or_false, Nat.reduceEqDiff, Nat.reduceLT, Nat.reduceAdd, Int.reduceLT, if_true, if_false, reduceCtorEq, List.getElem?_cons_zero, Option.bind_some, Option.map_some, tt_71]
      refine hK _ ?_
      clear hK K
      refine W.cond (b := false) (by simp only [ev, lk, Nat.reduceEqDiff, if_true, if_false, reduceCtorEq]) (fun h => absurd h (by simp)) (fun _ => W.exit ?_)
      simp only [thn_normal, thn_exit, inb_exit, Nat.reduceEqDiff, if_true, if_false, reduceCtorEq]
      clear hK0 K0
      refine hKy _ ?_
      refine W.seqK fun K hK => W.regionK tt_ok ?_
      simp only [exOps_nil, exOps_cons, exOp_eq, nx_eq, cur_eq, stepQ, ev, lk, putT, erA, inB, opt, ret, onQ, ap, true_and, Nat.reduceEqDiff, Nat.reduceLT, Nat.reduceAdd, if_true, if_false, reduceCtorEq]
      refine hK _ ?_
      clear hK K
      refine W.cond (b := true) (by simp only [ev, lk, Nat.reduceEqDiff, if_true, if_false, reduceCtorEq]) (fun _ => ?_) (fun h => absurd h (by simp))
      refine W.region tt_ok ?_
      simp only [exOps_nil, exOps_cons, exOp_eq, exCall_eq, nx_eq, cur_eq, curV_eq, evL, evP, stepQ, ev, lk, putT, erA, inB, opt, bnd, req, ret, onQ, ap, up, er, AV.isTup, AV.isAgg, intsOf, Kd.agg, comps, szL, csize, takeI, takeC, dropC, stC, stS, bltQ, bltV, appQ, appV, srcQ, Row.len, Row.sz, Row.take, Row.drop, Ent.row, Row.lst, bldA, bslQ, zeroCs, cellsRow, thn_normal, inb_normal, and_true, true_and, and_self, and_false, Nat.reduceEqDiff, Nat.reduceLT, Nat.reduceLeDiff, Nat.reduceAdd, Nat.reduceSub, Nat.reduceMul, Nat.sub_self, Nat.le_refl, Nat.add_zero, Nat.zero_add, if_true, if_false, Bool.false_eq_true, reduceCtorEq, ne_eq, not_false_eq_true, Option.bind_some, Option.map_some, List.append_nil, List.nil_append, List.cons_append, tt_28, tt_71, lit1, List.set_cons_zero, List.length_cons, List.length_nil, ht1]
      refine Or.inl ?_
      refine hK _ ?_
      refine W.region tt_ok ?_
      simp only [exOps_nil, exOps_cons, exOp_eq, nx_eq, cur_eq, stepQ, ev, ofV, lk, putT, erA, inB, opt, bnd, req, ret, onQ, ap, binG, binF, intF, thn_normal, true_and, and_self, Nat.reduceEqDiff, Nat.reduceLT, Nat.reduceAdd, if_true, if_false, reduceCtorEq, hw]
      refine hK3 _ (k + 1) 736 200 (by omega) (by omega) ⟨⟨by simp [Nm, lk], by simp [Nm, lk]⟩, by simp, by simp⟩ ?_
      rw [hs1]
      simp [St.swap, tmMap, enMap, swp, AV.map, Ent.map, Row.map, wk, leL, lk, nmT, nmE, nmH, AV.nmIn, Ent.nmIn, Row.nmIn]
    · simp only [if_neg hk0]
      have l3 := l2 hk0
      generalize hT1 : prK (k + 1) = L1 at *
      generalize hT0 : prK k = L at *
      have htL : List.take L.length L = L := List.take_length
      refine W.seqK fun K0 hK0 => ?_
      refine W.seqK fun K hK => W.regionK tt_ok ?_
      simp only [decide_true, exOps_nil, exOps_cons, exOp_eq, exCall_eq, nx_eq, cur_eq, evL, stepQ, ev, lk, putT, erA, inB, opt, bnd, req, ret, onQ, ap, binG, binF, intF, bltQ, bltV, lenF, true_and, and_self, or_false, Nat.reduceEqDiff, Nat.reduceLT, Nat.reduceAdd, if_true, if_false, reduceCtorEq, List.getElem?_cons_zero, Option.bind_some, Option.map_some, tt_71, c1']
      refine hK _ ?_
      clear hK K
      refine W.cond (b := true) (by simp only [ev, lk, Nat.reduceEqDiff, if_true, if_false, reduceCtorEq]) (fun _ => W.skip ?_) (fun h => absurd h (by simp))
      rw [thn_normal]
      refine hK0 _ ?_
      clear hK0 K0
      refine W.seqK fun K hK => W.blockK ?_
      refine W.seqK fun K hK => W.regionK tt_ok ?_
      simp only [exOps_nil, exOps_cons, exOp_eq, nx_eq, cur_eq, stepQ, ev, ofV, putT, erA, inB, opt, ret, onQ, ap, true_and, Nat.reduceEqDiff, Nat.reduceLT, Nat.reduceAdd, if_false, reduceCtorEq]
      refine hK _ ?_
      clear hK K
      refine W.seqK fun Ky hKy => ?_
      refine W.seqK fun K hK => W.regionK tt_ok ?_
      simp only [exOps_nil, exOps_cons, exOp_eq, nx_eq, cur_eq, stepQ, ev, ofV, putT, erA, inB, opt, ret, onQ, ap, true_and, Nat.reduceEqDiff, Nat.reduceLT, Nat.reduceAdd, if_false, reduceCtorEq]
      refine hK _ ?_
      clear hK K
      refine W.blockK ?_
      refine W.loopK (fun i : Nat => i ≤ L.length) (fun i => ⟨[(0, .int .i64 (N : Int)), (3, .sl 200 1 0 L.length), (4, .int .u64 ((k + 2 : Nat) : Int)), (5, .bool (prT L ((k + 2 : Nat) : Int) i)), (6, .int .i64 (i : Int))], [(200, .vec 28 (.ints .u64 L))], 700, 35⟩) (fun i => L.length - i) 0 (by simp) (by simp [prT, wk, leL, lk, nmT, nmE, nmH, AV.nmIn, Ent.nmIn, Row.nmIn]) ?_
      intro i hi K4 hK4
      by_cases hilt : i < L.length
      · have c2 : (i : Int) < (L.length : Nat) := by omega
        have hps := prT_s L ((k + 2 : Nat) : Int) i hilt
        have hq : L.getD i 0 ∈ L := by rw [List.getD_eq_getElem?_getD, List.getElem?_eq_getElem hilt]; exact List.getElem_mem hilt
        have hq2 := hge _ hq
        have hq0 : ¬ (L.getD i 0 = 0) := by omega
        cases hb : prT L ((k + 2 : Nat) : Int) i with
        | true =>
          rw [hb, Bool.true_and, nd] at hps
          refine W.seqK fun K0 hK0 => ?_
          refine W.seqK fun K hK => W.regionK tt_ok ?_
          simp only [decide_true, exOps_nil, exOps_cons, exOp_eq, exCall_eq, nx_eq, cur_eq, evL, stepQ, ev, lk, putT, erA, inB, opt, bnd, req, ret, onQ, ap, binG, binF, intF, bltQ, bltV, lenF, true_and, and_self, or_false, Nat.reduceEqDiff, Nat.reduceLT, Nat.reduceAdd, if_true, if_false, reduceCtorEq, List.getElem?_cons_zero, Option.bind_some, Option.map_some, tt_71, c2]
          refine hK _ ?_
          clear hK K
          refine W.cond (b := true) (by simp only [ev, lk, Nat.reduceEqDiff, if_true, if_false, reduceCtorEq]) (fun _ => W.skip ?_) (fun h => absurd h (by simp))
          rw [thn_normal]
          refine hK0 _ ?_
          clear hK0 K0
          refine W.seqK fun K hK => W.blockK ?_
          refine W.region tt_ok ?_
          simp only [↓gTT, ↓nTT, exOps_nil, exOps_cons, exOp_eq, nx_eq, cur_eq, stepQ, ev, ofV, lk, putT, erA, inB, opt, bnd, req, ret, onQ, ap, binG, binF, intF, pickF, Kd.elem, ixA, asI, ldP, ldE, Kd.agg, thn_normal, inb_normal, and_true, true_and, and_self, Nat.reduceEqDiff, Nat.reduceLT, Nat.reduceAdd, Int.toNat_natCast, Nat.zero_add, if_true, if_false, Bool.false_eq_true, reduceCtorEq, ne_eq, not_false_eq_true, List.getElem?_cons_zero, List.getElem?_cons_succ, Option.bind_some, tt_28, tt_71, Int.toNat_natCast, hq0]
          refine ⟨by omega, by omega, ?_⟩
          refine hK _ ?_
          refine W.region tt_ok ?_
          simp only [exOps_nil, exOps_cons, exOp_eq, nx_eq, cur_eq, stepQ, ev, ofV, lk, putT, erA, inB, opt, bnd, req, ret, onQ, ap, binG, binF, intF, thn_normal, true_and, and_self, Nat.reduceEqDiff, Nat.reduceLT, Nat.reduceAdd, if_true, if_false, reduceCtorEq, wrap_up i (by omega)]
          refine hK4 _ (i + 1) (by omega) (by omega) ?_
          rw [hps]
          simp [bne, wk, leL, lk, nmT, nmE, nmH, AV.nmIn, Ent.nmIn, Row.nmIn]
        | false =>
          rw [hb, Bool.false_and] at hps
          refine W.seqK fun K0 hK0 => ?_
          refine W.seqK fun K hK => W.regionK tt_ok ?_
          simp only [decide_true, exOps_nil, exOps_cons, exOp_eq, exCall_eq, nx_eq, cur_eq, evL, stepQ, ev, lk, putT, erA, inB, opt, bnd, req, ret, onQ, ap, binG, binF, intF, bltQ, bltV, lenF, true_and, and_self, or_false, Nat.reduceEqDiff, Nat.reduceLT, Nat.reduceAdd, if_true, if_false, reduceCtorEq, List.getElem?_cons_zero, Option.bind_some, Option.map_some, tt_71, c2]
          refine hK _ ?_
          clear hK K
          refine W.cond (b := true) (by simp only [ev, lk, Nat.reduceEqDiff, if_true, if_false, reduceCtorEq]) (fun _ => W.skip ?_) (fun h => absurd h (by simp))
          rw [thn_normal]
          refine hK0 _ ?_
          clear hK0 K0
          refine W.seqK fun K hK => W.blockK ?_
          refine W.region tt_ok ?_
          simp only [↓gFT, ↓nFT, exOps_nil, exOps_cons, exOp_eq, nx_eq, cur_eq, stepQ, ev, ofV, lk, putT, erA, inB, opt, bnd, req, ret, onQ, ap, pickF, thn_normal, inb_normal, true_and, and_self, Nat.reduceEqDiff, Nat.reduceLT, Nat.reduceAdd, if_true, if_false, reduceCtorEq, List.getElem?_cons_zero, List.getElem?_cons_succ, Option.bind_some]
          refine hK _ ?_
          refine W.region tt_ok ?_
          simp only [exOps_nil, exOps_cons, exOp_eq, nx_eq, cur_eq, stepQ, ev, ofV, lk, putT, erA, inB, opt, bnd, req, ret, onQ, ap, binG, binF, intF, thn_normal, true_and, and_self, Nat.reduceEqDiff, Nat.reduceLT, Nat.reduceAdd, if_true, if_false, reduceCtorEq, wrap_up i (by omega)]
          refine hK4 _ (i + 1) (by omega) (by omega) ?_
          rw [hps]
          simp [wk, leL, lk, nmT, nmE, nmH, AV.nmIn, Ent.nmIn, Row.nmIn]
      have hi' : i = L.length := by omega
      subst hi'
      have c2 : ¬ ((L.length : Nat) : Int) < (L.length : Nat) := by omega
      rw [prT_all]
      clear hK4
      cases hb : prm L ((k + 2 : Nat) : Int) with
      | true =>
        rw [hb, if_pos rfl] at hs
        refine W.seqK fun K0 hK0 => ?_
        refine W.seqK fun K hK => W.regionK tt_ok ?_
        simp only [decide_false, exOps_nil, exOps_cons, exOp_eq, exCall_eq, nx_eq, cur_eq, evL, stepQ, ev, lk, putT, erA, inB, opt, bnd, req, ret, onQ, ap, binG, binF, intF, bltQ, bltV, lenF, true_and, and_self, or_false, Nat.reduceEqDiff, Nat.reduceLT, Nat.reduceAdd, if_true, if_false, reduceCtorEq, List.getElem?_cons_zero, Option.bind_some, Option.map_some, tt_71, c2]
        refine hK _ ?_
        clear hK K
        refine W.cond (b := false) (by simp only [ev, lk, Nat.reduceEqDiff, if_true, if_false, reduceCtorEq]) (fun h => absurd h (by simp)) (fun _ => W.exit ?_)
        simp only [thn_normal, thn_exit, inb_exit, Nat.reduceEqDiff, if_true, if_false, reduceCtorEq]
        clear hK0 K0
        refine hKy _ ?_
        refine W.seqK fun K hK => W.regionK tt_ok ?_
        simp only [exOps_nil, exOps_cons, exOp_eq, nx_eq, cur_eq, stepQ, ev, lk, putT, erA, inB, opt, ret, onQ, ap, true_and, Nat.reduceEqDiff, Nat.reduceLT, Nat.reduceAdd, if_true, if_false, reduceCtorEq]
        refine hK _ ?_
        clear hK K
        refine W.cond (b := true) (by simp only [ev, lk, Nat.reduceEqDiff, if_true, if_false, reduceCtorEq]) (fun _ => ?_) (fun h => absurd h (by simp))
        refine W.region tt_ok ?_
        simp only [exOps_nil, exOps_cons, exOp_eq, exCall_eq, nx_eq, cur_eq, evL, evP, stepQ, ev, lk, putT, erA, inB, opt, bnd, req, ret, onQ, ap, up, er, AV.isTup, AV.isAgg, intsOf, Kd.agg, comps, szL, csize, takeI, takeC, dropC, stC, stS, bltQ, bltV, appR, appQ, appV, srcQ, Row.len, Row.sz, Row.take, Row.drop, Row.app, Ent.row, bldA, bslQ, zeroCs, cellsRow, thn_normal, inb_normal, and_true, true_and, and_self, and_false, or_false, Nat.reduceEqDiff, Nat.reduceLT, Nat.reduceLeDiff, Nat.reduceAdd, Nat.reduceSub, Nat.reduceMul, Nat.sub_self, Nat.le_refl, Nat.add_zero, Nat.zero_add, if_true, if_false, Bool.false_eq_true, reduceCtorEq, Option.bind_some, Option.map_some, List.append_nil, List.nil_append, List.cons_append, tt_28, tt_71, lit1, List.set_cons_zero, List.length_cons, List.length_nil, ht1, htL]
        refine ⟨by omega, ?_⟩
        refine hK _ ?_
        refine W.region tt_ok ?_
        simp only [exOps_nil, exOps_cons, exOp_eq, nx_eq, cur_eq, stepQ, ev, ofV, lk, putT, erA, inB, opt, bnd, req, ret, onQ, ap, binG, binF, intF, thn_normal, true_and, and_self, Nat.reduceEqDiff, Nat.reduceLT, Nat.reduceAdd, if_true, if_false, reduceCtorEq, hw]
        refine hK3 _ (k + 1) 828 200 (by omega) (by omega) ⟨⟨by simp [Nm, lk], by simp [Nm, lk]⟩, by simp, by simp⟩ ?_
        rw [hT1, hs]
        simp [St.swap, tmMap, enMap, swp, AV.map, Ent.map, Row.map, wk, leL, lk, nmT, nmE, nmH, AV.nmIn, Ent.nmIn, Row.nmIn]
      | false =>
        rw [hb, if_neg (by simp)] at hs
        refine W.seqK fun K0 hK0 => ?_
        refine W.seqK fun K hK => W.regionK tt_ok ?_
        simp only [decide_false, exOps_nil, exOps_cons, exOp_eq, exCall_eq, nx_eq, cur_eq, evL, stepQ, ev, lk, putT, erA, inB, opt, bnd, req, ret, onQ, ap, binG, binF, intF, bltQ, bltV, lenF, true_and, and_self, or_false, Nat.reduceEqDiff, Nat.reduceLT, Nat.reduceAdd, if_true, if_false, reduceCtorEq, List.getElem?_cons_zero, Option.bind_some, Option.map_some, tt_71, c2]
        refine hK _ ?_
        clear hK K
        refine W.cond (b := false) (by simp only [ev, lk, Nat.reduceEqDiff, if_true, if_false, reduceCtorEq]) (fun h => absurd h (by simp)) (fun _ => W.exit ?_)
        simp only [thn_normal, thn_exit, inb_exit, Nat.reduceEqDiff, if_true, if_false, reduceCtorEq]
        clear hK0 K0
        refine hKy _ ?_
        refine W.seqK fun K hK => W.regionK tt_ok ?_
        simp only [exOps_nil, exOps_cons, exOp_eq, nx_eq, cur_eq, stepQ, ev, lk, putT, erA, inB, opt, ret, onQ, ap, true_and, Nat.reduceEqDiff, Nat.reduceLT, Nat.reduceAdd, if_true, if_false, reduceCtorEq]
        refine hK _ ?_
        clear hK K
        refine W.cond (b := false) (by simp only [ev, lk, Nat.reduceEqDiff, if_true, if_false, reduceCtorEq]) (fun h => absurd h (by simp)) (fun _ => W.skip ?_)
        simp only [thn_normal, inb_normal]
        refine hK _ ?_
        refine W.region tt_ok ?_
        simp only [exOps_nil, exOps_cons, exOp_eq, nx_eq, cur_eq, stepQ, ev, ofV, lk, putT, erA, inB, opt, bnd, req, ret, onQ, ap, binG, binF, intF, thn_normal, true_and, and_self, Nat.reduceEqDiff, Nat.reduceLT, Nat.reduceAdd, if_true, if_false, reduceCtorEq, hw]
        refine hK3 _ (k + 1) 200 200 (by omega) (by omega) ⟨⟨by simp [Nm, lk], by simp [Nm, lk]⟩, by simp, by simp⟩ ?_
        rw [hT1, hs]
        simp [St.swap, tmMap, enMap, swp, AV.map, Ent.map, Row.map, wk, leL, lk, nmT, nmE, nmH, AV.nmIn, Ent.nmIn, Row.nmIn]
  have hk' : k = K := by omega
  subst hk'
  simp only [if_neg h0]
  have c1 : ¬ ((prK k).length : Int) < (N : Int) := by omega
  rw [h2]
  rw [h2] at c1
  refine W.seqK fun K0 hK0 => ?_
  refine W.seqK fun K hK => W.regionK tt_ok ?_
  simp only [decide_false, exOps_nil, exOps_cons, exOp_eq, exCall_eq, nx_eq, cur_eq, evL, stepQ, ev, lk, putT, erA, inB, opt, bnd, req, ret, onQ, ap, binG, binF, intF, bltQ, bltV, lenF, true_and, and_self, or_false, Nat.reduceEqDiff, Nat.reduceLT, Nat.reduceAdd, if_true, if_false, reduceCtorEq, List.getElem?_cons_zero, Option.bind_some, Option.map_some, tt_71, c1]
  refine hK _ ?_
  clear hK K
  refine W.cond (b := false) (by simp only [ev, lk, Nat.reduceEqDiff, if_true, if_false, reduceCtorEq]) (fun h => absurd h (by simp)) (fun _ => W.exit ?_)
  simp only [thn_normal, thn_exit, inb_exit, if_true]
  clear hK0 K0
  refine hKx _ ?_
  refine W.seqK fun K hK => W.regionK tt_ok ?_
  simp only [exOps_nil, exOps_cons, exOp_eq, nx_eq, cur_eq, stepQ, ev, lk, putT, erA, inB, opt, ret, onQ, ap, true_and, Nat.reduceEqDiff, Nat.reduceLT, Nat.reduceAdd, if_true, if_false, reduceCtorEq]
  refine hK _ ?_
  clear hK K
  refine W.ret ?_
  simp only [fin_ret, finB, resQ, resV, leL, AV.nmIn, entsIn, lk, opt, bnd, req, ret, onQ, AV.isTup, and_true, true_and, and_self, Nat.reduceEqDiff, if_true, if_false, reduceCtorEq]
  simp [Nm, lk, Ent.nmIn, Row.nmIn]
theorem primes_own (Y : Nat) (N K : Nat) (hK : K ≤ 400) (h1 : ∀ k, k < K → (prK k).length < N) (h2 : (prK K).length = N) (h0 : K ≠ 0) : FnR Tryd.prog G 38 [.int .i64 (N : Int)] [] (.sl Y 1 0 N) [(Y, .vec 28 (.ints .u64 (prK K)))] := by
  have h := (primes_fn0 N K hK h1 h2 h0).rename 200 Y
  have e : swp 200 Y 200 = Y := by simp [swp]
  simpa only [AV.map, enMap, Ent.map, Row.map, e] using h
theorem call38 : Callable Tryd.prog 38 := ⟨_, Tryd.func38, by kernel_rfl, by kernel_rfl⟩
theorem prK_up : ∀ j k, (prK k).length ≤ (prK (k + j)).length
  | 0, k => Nat.le_refl _
  | j + 1, k => by
    have ih := prK_up j k
    rw [show k + (j + 1) = k + j + 1 by omega, prK_s]
    split
    · rw [List.length_append]; omega
    · exact ih
theorem pr_below {N K : Nat} (h : (prK (K - 1)).length < N) : ∀ k, k < K → (prK k).length < N := fun k hk => by
  have := prK_up (K - 1 - k) k
  rw [show k + (K - 1 - k) = K - 1 by omega] at this
  omega
end Go.Proofs.YtageadccfdbmjaaDoor
