/- The reference's carry. -/
import Derived.Test.YtakgcmponelbeaaDoorAgA
import Derived.Test.YtakgcmponelbeaaDoorSxW
-- TT 3 4 73
set_option linter.unusedVariables false
set_option linter.unusedSimpArgs false
namespace Go.Proofs.YtakgcmponelbeaaDoor.Tg
open Sx
set_option maxRecDepth 100000

/-- The digits and what is carried, behind some rounds. -/
def carC (xs : List Int) : Nat → List Int × Int
  | 0 => ([], 0)
  | k + 1 => ((carC xs k).1 ++ [((carC xs k).2 + (if k < xs.length then xs.getD k 0 else 0)) % 256], ((carC xs k).2 + (if k < xs.length then xs.getD k 0 else 0)) / 256)
theorem carC_len (xs : List Int) : ∀ k, (carC xs k).1.length = k
  | 0 => rfl
  | k + 1 => by simp [carC, carC_len xs k]
theorem carC_ok {xs : List Int} (hx : ∀ i, 0 ≤ xs.getD i 0 ∧ xs.getD i 0 < 1000000000) : ∀ k, 0 ≤ (carC xs k).2 ∧ (carC xs k).2 ≤ 1000000000
  | 0 => by simp [carC]
  | k + 1 => by
    have h := carC_ok hx k
    have b := hx k
    simp only [carC]
    split <;> omega
def carI (xs : List Int) (n k : Nat) : St :=
  match k with
  | 0 => ⟨[(0, .lstI .i64 xs), (1, .int .i64 n), (5, .nils), (6, .int .i64 (carC xs 0).2), (7, .int .i64 (0 : Nat))], [], 1024, 41⟩
  | k + 1 => ⟨[(0, .lstI .i64 xs), (1, .int .i64 n), (5, .sl 1000 1 0 (k + 1)), (6, .int .i64 (carC xs (k + 1)).2), (7, .int .i64 ((k + 1 : Nat) : Int))], [(1000, .vec 3 (.ints .i64 (carC xs (k + 1)).1))], 1024, 41⟩
theorem carry_own (xs : List Int) (n M : Nat) (hx : ∀ i, 0 ≤ xs.getD i 0 ∧ xs.getD i 0 < 1000000000) (hM : M < 1000000000) (hM0 : 0 < M)
    (hgo : ∀ k, k < M → k < xs.length ∨ 0 < (carC xs k).2 ∨ k < n) (hend : xs.length ≤ M ∧ (carC xs M).2 = 0 ∧ n ≤ M) :
    FnR Tryd.prog G 35 [.lstI .i64 xs, .int .i64 n] [] (.sl 1000 1 0 M) [(1000, .vec 3 (.ints .i64 (carC xs M).1))] := by
  refine FnR.of_walk (m := 41) (n0 := 0) tt_ok Tryd.func35 rfl rfl (by simp) (by simp [nmH]) ?_
  rw [show Tryd.f35.results.toList = [.tmp 4] from rfl]
  refine W.seqK fun K hK => W.regionK tt_ok ?_
  simp only [exOps_nil, exOps_cons, exOp_eq, nx_eq, cur_eq, stepQ, ev, ofV, parT, putT, erA, inB, opt, ret, onQ, ap, true_and, Nat.reduceEqDiff, Nat.reduceLT, Nat.zero_add, if_false, reduceCtorEq]
  refine hK _ ?_
  clear hK K
  refine W.seqK fun K hK => W.regionK tt_ok ?_
  simp only [exOps_nil, exOps_cons, exOp_eq, nx_eq, cur_eq, stepQ, ev, ofV, putT, erA, inB, opt, ret, onQ, ap, true_and, Nat.reduceEqDiff, Nat.reduceLT, Nat.reduceAdd, if_false, reduceCtorEq]
  refine hK _ ?_
  clear hK K
  refine W.seqK fun K hK => W.regionK tt_ok ?_
  simp only [exOps_nil, exOps_cons, exOp_eq, nx_eq, cur_eq, stepQ, ev, ofV, putT, erA, inB, opt, ret, onQ, ap, true_and, Nat.reduceEqDiff, Nat.reduceLT, Nat.reduceAdd, if_false, reduceCtorEq]
  refine hK _ ?_
  clear hK K
  refine W.seqK fun Kz hKz => ?_
  refine W.seqK fun K hK => W.regionK tt_ok ?_
  simp only [exOps_nil, exOps_cons, exOp_eq, nx_eq, cur_eq, stepQ, ev, ofV, putT, erA, inB, opt, ret, onQ, ap, true_and, Nat.reduceEqDiff, Nat.reduceLT, Nat.reduceAdd, if_false, reduceCtorEq]
  refine hK _ ?_
  clear hK K
  refine W.blockK ?_
  refine W.loopS (fun k : Nat => k ≤ M) (carI xs n) (fun k => M - k) 0 (by simp) (by simp [carI, wk, leL, lk, nmT, nmE, nmH, AV.nmIn, carC]) ?_
  intro k hk K3 hK3
  have hacc := carC_ok hx
  match k, hk with
  | 0, hk =>
    simp only [carI]
    by_cases hM' : 0 < M
    · refine W.joinK ⟨[(0, .lstI .i64 xs), (1, .int .i64 n), (5, .nils), (6, .int .i64 (carC xs (0)).2), (7, .int .i64 ((0 : Nat) : Int))], [], 1024 + 208, 41⟩ (fun Kj hKj => ?_) ?_
      · by_cases c1 : ((0 : Nat) : Int) < xs.length
        · refine W.seqK fun K hK => W.regionK tt_ok ?_
          simp only [↓gTF, ↓nTF, decide_true, exOps_nil, exOps_cons, exOp_eq, exCall_eq, nx_eq, cur_eq, evL, stepQ, ev, ofV, lk, putT, erA, inB, opt, bnd, req, ret, onQ, ap, binG, binF, intF, pickF, bltQ, bltV, lenF, true_and, and_self, or_false, Nat.reduceEqDiff, Nat.reduceLT, Nat.reduceAdd, if_true, if_false, reduceCtorEq, List.getElem?_cons_zero, List.getElem?_cons_succ, Option.bind_some, Option.map_some, tt_73, c1]
          refine hK _ ?_
          clear hK K
          refine W.cond (b := true) (by simp only [ev, lk, Nat.reduceEqDiff, if_true, if_false, reduceCtorEq]) (fun _ => W.skip ?_) (fun h => absurd h (by simp))
          rw [thn_normal]
          refine hKj _ ?_
          simp [wk, leL, lk, nmT, nmE, nmH, AV.nmIn]
        by_cases c2 : 0 < (carC xs (0)).2
        · refine W.seqK fun K hK => W.regionK tt_ok ?_
          simp only [↓gFF, ↓gTF, ↓nFF, ↓nTF, decide_true, decide_false, exOps_nil, exOps_cons, exOp_eq, exCall_eq, nx_eq, cur_eq, evL, stepQ, ev, ofV, lk, putT, erA, inB, opt, bnd, req, ret, onQ, ap, binG, binF, intF, pickF, bltQ, bltV, lenF, and_true, true_and, and_self, or_false, Nat.reduceEqDiff, Nat.reduceLT, Nat.reduceAdd, if_true, if_false, reduceCtorEq, List.getElem?_cons_zero, List.getElem?_cons_succ, Option.bind_some, Option.map_some, tt_73, c1, c2]
          refine hK _ ?_
          clear hK K
          refine W.cond (b := true) (by simp only [ev, lk, Nat.reduceEqDiff, if_true, if_false, reduceCtorEq]) (fun _ => W.skip ?_) (fun h => absurd h (by simp))
          rw [thn_normal]
          refine hKj _ ?_
          simp [wk, leL, lk, nmT, nmE, nmH, AV.nmIn]
        by_cases c3 : ((0 : Nat) : Int) < n
        · refine W.seqK fun K hK => W.regionK tt_ok ?_
          simp only [↓gFF, ↓nFF, decide_true, decide_false, exOps_nil, exOps_cons, exOp_eq, exCall_eq, nx_eq, cur_eq, evL, stepQ, ev, ofV, lk, putT, erA, inB, opt, bnd, req, ret, onQ, ap, binG, binF, intF, pickF, bltQ, bltV, lenF, and_true, true_and, and_self, or_false, Nat.reduceEqDiff, Nat.reduceLT, Nat.reduceAdd, if_true, if_false, reduceCtorEq, List.getElem?_cons_zero, List.getElem?_cons_succ, Option.bind_some, Option.map_some, tt_73, c1, c2, c3]
          refine hK _ ?_
          clear hK K
          refine W.cond (b := true) (by simp only [ev, lk, Nat.reduceEqDiff, if_true, if_false, reduceCtorEq]) (fun _ => W.skip ?_) (fun h => absurd h (by simp))
          rw [thn_normal]
          refine hKj _ ?_
          simp [wk, leL, lk, nmT, nmE, nmH, AV.nmIn]
        exfalso
        rcases hgo (0) hM' with h | h | h <;> omega
      · have ha := hacc (0)
        have hb := hx (0)
        refine W.seqK fun K hK => W.blockK ?_
        refine W.joinK ⟨[(0, .lstI .i64 xs), (1, .int .i64 n), (5, .nils), (6, .int .i64 ((carC xs (0)).2 + (if 0 < xs.length then xs.getD (0) 0 else 0))), (7, .int .i64 ((0 : Nat) : Int))], [], 1024 + 512, 41⟩ (fun Kj hKj => ?_) ?_
        · refine W.seqK fun K hK => W.regionK tt_ok ?_
          simp only [exOps_nil, exOps_cons, exOp_eq, exCall_eq, nx_eq, cur_eq, evL, stepQ, ev, lk, putT, erA, inB, opt, bnd, req, ret, onQ, ap, binG, binF, intF, bltQ, bltV, lenF, true_and, and_self, or_false, Nat.reduceEqDiff, Nat.reduceLT, Nat.reduceAdd, if_true, if_false, reduceCtorEq, List.getElem?_cons_zero, Option.bind_some, Option.map_some, tt_73]
          refine hK _ ?_
          clear hK K
          refine W.cond (b := decide (((0 : Nat) : Int) < xs.length)) (by simp only [ev, lk, Nat.reduceEqDiff, if_true, if_false, reduceCtorEq]) (fun hc => ?_) (fun hc => W.skip ?_)
          · have hlt : 0 < xs.length := by have := of_decide_eq_true hc; omega
            have hw : IntKind.i64.wrap ((carC xs (0)).2 + xs.getD (0) 0) = (carC xs (0)).2 + xs.getD (0) 0 := by rw [IntKind.wrap_i64]; omega
            refine W.region tt_ok ?_
            simp only [exOps_nil, exOps_cons, exOp_eq, nx_eq, cur_eq, stepQ, ev, lk, putT, erA, inB, opt, bnd, req, ret, onQ, ap, binG, binF, intF, Kd.elem, ixA, asI, ldP, ldC, ldS, Kd.agg, comps, csize, takeI, takeC, dropC, thn_normal, and_true, true_and, and_self, Nat.reduceEqDiff, Nat.reduceLT, Nat.reduceLeDiff, Nat.reduceAdd, Nat.reduceSub, Nat.sub_self, Int.toNat_natCast, Nat.le_refl, if_true, if_false, Bool.false_eq_true, reduceCtorEq, Option.bind_some, Option.map_some, tt_3, tt_73, hw]
            repeat (refine ⟨by omega, ?_⟩)
            refine hKj _ ?_
            simp only [if_pos hlt]
            simp [wk, leL, lk, nmT, nmE, nmH, AV.nmIn]
          · have hlt : ¬ 0 < xs.length := by have := of_decide_eq_false hc; omega
            rw [thn_normal]
            refine hKj _ ?_
            simp only [if_neg hlt, Int.add_zero]
            simp [wk, leL, lk, nmT, nmE, nmH, AV.nmIn]
        · obtain ⟨z, hz⟩ : ∃ z, ((carC xs (0)).2 + (if 0 < xs.length then xs.getD (0) 0 else 0)) = z := ⟨_, rfl⟩
          have hz0 : 0 ≤ z ∧ z < 3000000000 := by rw [← hz]; split <;> omega
          have hq : Int.tmod z 256 = z % 256 := Int.tmod_eq_emod_of_nonneg hz0.1
          have hd : Int.tdiv z 256 = z / 256 := Int.tdiv_eq_ediv_of_nonneg hz0.1
          have hcl := carC_len xs (0)
          simp only [hz]
          refine W.seqK fun K hK => W.regionK tt_ok ?_
          simp only [exOps_nil, exOps_cons, exOp_eq, exCall_eq, nx_eq, cur_eq, curV_eq, evL, evP, stepQ, ev, ofV, lk, putT, erA, inB, opt, bnd, req, ret, onQ, ap, up, er, AV.isTup, AV.isAgg, binG, binF, intF, intsOf, Kd.agg, comps, szL, csize, takeI, takeC, dropC, stC, stS, bltQ, bltV, appQ, appV, srcQ, Row.len, Row.sz, Row.take, Row.drop, Ent.row, Row.lst, bldA, bslQ, zeroCs, cellsRow, and_true, true_and, and_self, and_false, Nat.reduceEqDiff, Nat.reduceLT, Nat.reduceLeDiff, Nat.reduceAdd, Nat.reduceSub, Nat.reduceMul, Nat.sub_self, Nat.le_refl, Nat.add_zero, Nat.zero_add, if_true, if_false, Bool.false_eq_true, reduceCtorEq, ne_eq, not_false_eq_true, Option.bind_some, Option.map_some, List.append_nil, List.nil_append, List.cons_append, tt_3, tt_73, hq, List.replicate_succ, List.replicate_zero, List.set_cons_zero, List.length_cons, List.length_nil, List.drop_zero, List.take_succ_cons, List.take_zero, Nat.one_ne_zero, Nat.zero_add]
          refine ⟨by omega, Or.inl ?_⟩
          refine hK _ ?_
          clear hK K
          have hwz : IntKind.i64.wrap (z / 256) = z / 256 := by rw [IntKind.wrap_i64]; omega
          refine W.region tt_ok ?_
          simp only [exOps_nil, exOps_cons, exOp_eq, nx_eq, cur_eq, stepQ, ev, ofV, lk, putT, erA, inB, opt, bnd, req, ret, onQ, ap, binG, binF, intF, thn_normal, inb_normal, and_true, true_and, Nat.reduceEqDiff, Nat.reduceLT, Nat.reduceAdd, if_true, if_false, reduceCtorEq, ne_eq, hd, hwz]
          refine ⟨by omega, ?_⟩
          refine hK _ ?_
          clear hK K
          refine W.region tt_ok ?_
          simp only [exOps_nil, exOps_cons, exOp_eq, nx_eq, cur_eq, stepQ, ev, ofV, lk, putT, erA, inB, opt, bnd, req, ret, onQ, ap, binG, binF, intF, thn_normal, true_and, and_self, Nat.reduceEqDiff, Nat.reduceLT, Nat.reduceAdd, Nat.zero_add, if_true, if_false, reduceCtorEq, wrap_up 0 (by omega)]
          refine hK3 _ 1 1600 1000 (by omega) (by omega) ⟨⟨by simp [Nm, lk], by simp [Nm, lk]⟩, by simp, by simp⟩ ?_
          simp only [carI, carC] at hz ⊢
          simp only [← hz]
          simp [St.swap, tmMap, enMap, swp, AV.map, Ent.map, Row.map, wk, leL, lk, nmT, nmE, nmH, AV.nmIn, Ent.nmIn, Row.nmIn]
    · omega
  | k + 1, hk =>
    simp only [carI]
    by_cases hM' : k + 1 < M
    · refine W.joinK ⟨[(0, .lstI .i64 xs), (1, .int .i64 n), (5, .sl 1000 1 0 (k + 1)), (6, .int .i64 (carC xs (k + 1)).2), (7, .int .i64 ((k + 1 : Nat) : Int))], [(1000, .vec 3 (.ints .i64 (carC xs (k + 1)).1))], 1024 + 208, 41⟩ (fun Kj hKj => ?_) ?_
      · by_cases c1 : ((k + 1 : Nat) : Int) < xs.length
        · refine W.seqK fun K hK => W.regionK tt_ok ?_
          simp only [↓gTF, ↓nTF, decide_true, exOps_nil, exOps_cons, exOp_eq, exCall_eq, nx_eq, cur_eq, evL, stepQ, ev, ofV, lk, putT, erA, inB, opt, bnd, req, ret, onQ, ap, binG, binF, intF, pickF, bltQ, bltV, lenF, true_and, and_self, or_false, Nat.reduceEqDiff, Nat.reduceLT, Nat.reduceAdd, if_true, if_false, reduceCtorEq, List.getElem?_cons_zero, List.getElem?_cons_succ, Option.bind_some, Option.map_some, tt_73, c1]
          refine hK _ ?_
          clear hK K
          refine W.cond (b := true) (by simp only [ev, lk, Nat.reduceEqDiff, if_true, if_false, reduceCtorEq]) (fun _ => W.skip ?_) (fun h => absurd h (by simp))
          rw [thn_normal]
          refine hKj _ ?_
          simp [wk, leL, lk, nmT, nmE, nmH, AV.nmIn, Ent.nmIn, Row.nmIn]
        by_cases c2 : 0 < (carC xs (k + 1)).2
        · refine W.seqK fun K hK => W.regionK tt_ok ?_
          simp only [↓gFF, ↓gTF, ↓nFF, ↓nTF, decide_true, decide_false, exOps_nil, exOps_cons, exOp_eq, exCall_eq, nx_eq, cur_eq, evL, stepQ, ev, ofV, lk, putT, erA, inB, opt, bnd, req, ret, onQ, ap, binG, binF, intF, pickF, bltQ, bltV, lenF, and_true, true_and, and_self, or_false, Nat.reduceEqDiff, Nat.reduceLT, Nat.reduceAdd, if_true, if_false, reduceCtorEq, List.getElem?_cons_zero, List.getElem?_cons_succ, Option.bind_some, Option.map_some, tt_73, c1, c2]
          refine hK _ ?_
          clear hK K
          refine W.cond (b := true) (by simp only [ev, lk, Nat.reduceEqDiff, if_true, if_false, reduceCtorEq]) (fun _ => W.skip ?_) (fun h => absurd h (by simp))
          rw [thn_normal]
          refine hKj _ ?_
          simp [wk, leL, lk, nmT, nmE, nmH, AV.nmIn, Ent.nmIn, Row.nmIn]
        by_cases c3 : ((k + 1 : Nat) : Int) < n
        · refine W.seqK fun K hK => W.regionK tt_ok ?_
          simp only [↓gFF, ↓nFF, decide_true, decide_false, exOps_nil, exOps_cons, exOp_eq, exCall_eq, nx_eq, cur_eq, evL, stepQ, ev, ofV, lk, putT, erA, inB, opt, bnd, req, ret, onQ, ap, binG, binF, intF, pickF, bltQ, bltV, lenF, and_true, true_and, and_self, or_false, Nat.reduceEqDiff, Nat.reduceLT, Nat.reduceAdd, if_true, if_false, reduceCtorEq, List.getElem?_cons_zero, List.getElem?_cons_succ, Option.bind_some, Option.map_some, tt_73, c1, c2, c3]
          refine hK _ ?_
          clear hK K
          refine W.cond (b := true) (by simp only [ev, lk, Nat.reduceEqDiff, if_true, if_false, reduceCtorEq]) (fun _ => W.skip ?_) (fun h => absurd h (by simp))
          rw [thn_normal]
          refine hKj _ ?_
          simp [wk, leL, lk, nmT, nmE, nmH, AV.nmIn, Ent.nmIn, Row.nmIn]
        exfalso
        rcases hgo (k + 1) hM' with h | h | h <;> omega
      · have ha := hacc (k + 1)
        have hb := hx (k + 1)
        refine W.seqK fun K hK => W.blockK ?_
        refine W.joinK ⟨[(0, .lstI .i64 xs), (1, .int .i64 n), (5, .sl 1000 1 0 (k + 1)), (6, .int .i64 ((carC xs (k + 1)).2 + (if k + 1 < xs.length then xs.getD (k + 1) 0 else 0))), (7, .int .i64 ((k + 1 : Nat) : Int))], [(1000, .vec 3 (.ints .i64 (carC xs (k + 1)).1))], 1024 + 512, 41⟩ (fun Kj hKj => ?_) ?_
        · refine W.seqK fun K hK => W.regionK tt_ok ?_
          simp only [exOps_nil, exOps_cons, exOp_eq, exCall_eq, nx_eq, cur_eq, evL, stepQ, ev, lk, putT, erA, inB, opt, bnd, req, ret, onQ, ap, binG, binF, intF, bltQ, bltV, lenF, true_and, and_self, or_false, Nat.reduceEqDiff, Nat.reduceLT, Nat.reduceAdd, if_true, if_false, reduceCtorEq, List.getElem?_cons_zero, Option.bind_some, Option.map_some, tt_73]
          refine hK _ ?_
          clear hK K
          refine W.cond (b := decide (((k + 1 : Nat) : Int) < xs.length)) (by simp only [ev, lk, Nat.reduceEqDiff, if_true, if_false, reduceCtorEq]) (fun hc => ?_) (fun hc => W.skip ?_)
          · have hlt : k + 1 < xs.length := by have := of_decide_eq_true hc; omega
            have hw : IntKind.i64.wrap ((carC xs (k + 1)).2 + xs.getD (k + 1) 0) = (carC xs (k + 1)).2 + xs.getD (k + 1) 0 := by rw [IntKind.wrap_i64]; omega
            refine W.region tt_ok ?_
            simp only [exOps_nil, exOps_cons, exOp_eq, nx_eq, cur_eq, stepQ, ev, lk, putT, erA, inB, opt, bnd, req, ret, onQ, ap, binG, binF, intF, Kd.elem, ixA, asI, ldP, ldC, ldS, Kd.agg, comps, csize, takeI, takeC, dropC, thn_normal, and_true, true_and, and_self, Nat.reduceEqDiff, Nat.reduceLT, Nat.reduceLeDiff, Nat.reduceAdd, Nat.reduceSub, Nat.sub_self, Int.toNat_natCast, Nat.le_refl, if_true, if_false, Bool.false_eq_true, reduceCtorEq, Option.bind_some, Option.map_some, tt_3, tt_73, hw]
            repeat (refine ⟨by omega, ?_⟩)
            refine hKj _ ?_
            simp only [if_pos hlt]
            simp [wk, leL, lk, nmT, nmE, nmH, AV.nmIn, Ent.nmIn, Row.nmIn]
          · have hlt : ¬ k + 1 < xs.length := by have := of_decide_eq_false hc; omega
            rw [thn_normal]
            refine hKj _ ?_
            simp only [if_neg hlt, Int.add_zero]
            simp [wk, leL, lk, nmT, nmE, nmH, AV.nmIn, Ent.nmIn, Row.nmIn]
        · obtain ⟨z, hz⟩ : ∃ z, ((carC xs (k + 1)).2 + (if k + 1 < xs.length then xs.getD (k + 1) 0 else 0)) = z := ⟨_, rfl⟩
          have hz0 : 0 ≤ z ∧ z < 3000000000 := by rw [← hz]; split <;> omega
          have hq : Int.tmod z 256 = z % 256 := Int.tmod_eq_emod_of_nonneg hz0.1
          have hd : Int.tdiv z 256 = z / 256 := Int.tdiv_eq_ediv_of_nonneg hz0.1
          have hcl := carC_len xs (k + 1)
          simp only [hz]
          refine W.seqK fun K hK => W.regionK tt_ok ?_
          simp only [exOps_nil, exOps_cons, exOp_eq, exCall_eq, nx_eq, cur_eq, evL, evP, stepQ, ev, ofV, lk, putT, erA, inB, opt, bnd, req, ret, onQ, ap, up, er, AV.isTup, AV.isAgg, binG, binF, intF, intsOf, Kd.agg, comps, szL, csize, takeI, takeC, dropC, stC, stS, bltQ, bltV, appQ, appV, srcQ, Row.len, Row.sz, Row.take, Row.drop, Row.app, Ent.row, bldA, bslQ, zeroCs, cellsRow, and_true, true_and, and_self, and_false, or_false, Nat.reduceEqDiff, Nat.reduceLT, Nat.reduceLeDiff, Nat.reduceAdd, Nat.reduceSub, Nat.reduceMul, Nat.sub_self, Nat.le_refl, Nat.add_zero, Nat.zero_add, if_true, if_false, Bool.false_eq_true, reduceCtorEq, ne_eq, Option.bind_some, Option.map_some, List.append_nil, List.nil_append, List.cons_append, tt_3, tt_73, hq, hcl, List.replicate_succ, List.replicate_zero, List.set_cons_zero, List.length_cons, List.length_nil, List.drop_zero, List.take_succ_cons, List.take_zero, Nat.one_ne_zero, Nat.zero_add]
          refine ⟨by omega, ⟨by omega, by omega⟩, ?_⟩
          refine hK _ ?_
          clear hK K
          have hwz : IntKind.i64.wrap (z / 256) = z / 256 := by rw [IntKind.wrap_i64]; omega
          refine W.region tt_ok ?_
          simp only [exOps_nil, exOps_cons, exOp_eq, nx_eq, cur_eq, stepQ, ev, ofV, lk, putT, erA, inB, opt, bnd, req, ret, onQ, ap, binG, binF, intF, thn_normal, inb_normal, and_true, true_and, Nat.reduceEqDiff, Nat.reduceLT, Nat.reduceAdd, if_true, if_false, reduceCtorEq, ne_eq, hd, hwz]
          refine ⟨by omega, ?_⟩
          refine hK _ ?_
          clear hK K
          refine W.region tt_ok ?_
          simp only [exOps_nil, exOps_cons, exOp_eq, nx_eq, cur_eq, stepQ, ev, ofV, lk, putT, erA, inB, opt, bnd, req, ret, onQ, ap, binG, binF, intF, thn_normal, true_and, and_self, Nat.reduceEqDiff, Nat.reduceLT, Nat.reduceAdd, if_true, if_false, reduceCtorEq, wrap_up (k + 1) (by omega)]
          refine hK3 _ (k + 2) 1600 1000 (by omega) (by omega) ⟨⟨by simp [Nm, lk], by simp [Nm, lk]⟩, by simp, by simp⟩ ?_
          rw [List.take_of_length_le (by omega)]
          have hC : carC xs (k + 1 + 1) = ((carC xs (k + 1)).1 ++ [z % 256], z / 256) := by rw [carC, hz]
          simp only [carI, hC]
          simp [St.swap, tmMap, enMap, swp, AV.map, Ent.map, Row.map, wk, leL, lk, nmT, nmE, nmH, AV.nmIn, Ent.nmIn, Row.nmIn]
    · have hkM : k + 1 = M := by omega
      have c1 : ¬ ((k + 1 : Nat) : Int) < xs.length := by omega
      have c2 : ¬ 0 < (carC xs (k + 1)).2 := by rw [hkM]; omega
      have c3 : ¬ ((k + 1 : Nat) : Int) < n := by omega
      refine W.seqK fun K hK => ?_
      refine W.seqK fun K hK => W.regionK tt_ok ?_
      simp only [↓gFF, ↓nFF, decide_false, exOps_nil, exOps_cons, exOp_eq, exCall_eq, nx_eq, cur_eq, evL, stepQ, ev, ofV, lk, putT, erA, inB, opt, bnd, req, ret, onQ, ap, binG, binF, intF, pickF, bltQ, bltV, lenF, and_true, true_and, and_self, or_false, Nat.reduceEqDiff, Nat.reduceLT, Nat.reduceAdd, if_true, if_false, reduceCtorEq, List.getElem?_cons_zero, List.getElem?_cons_succ, Option.bind_some, Option.map_some, tt_73, c1, c2, c3]
      refine hK _ ?_
      clear hK K
      refine W.cond (b := false) (by simp only [ev, lk, Nat.reduceEqDiff, if_true, if_false, reduceCtorEq]) (fun h => absurd h (by simp)) (fun _ => W.exit ?_)
      simp only [thn_normal, thn_exit, inb_exit, if_true]
      refine hKz _ ?_
      have hcl := carC_len xs M
      subst hkM
      refine W.seqK fun K hK => W.regionK tt_ok ?_
      simp only [exOps_nil, exOps_cons, exOp_eq, nx_eq, cur_eq, stepQ, ev, lk, putT, erA, inB, opt, ret, onQ, ap, true_and, Nat.reduceEqDiff, Nat.reduceLT, Nat.reduceAdd, if_true, if_false, reduceCtorEq]
      refine hK _ ?_
      clear hK K
      refine W.ret ?_
      simp only [fin_ret, finB, resQ, resV, leL, AV.nmIn, entsIn, lk, opt, bnd, req, ret, onQ, AV.isTup, and_true, true_and, and_self, Nat.reduceEqDiff, if_true, if_false, reduceCtorEq]
      simp [Nm, lk, Ent.nmIn, Row.nmIn]
end Go.Proofs.YtakgcmponelbeaaDoor.Tg
