/- TermOrder: the walk. -/
import Derived.Test.YtjnhpklhdikcdaaTnG
-- TT 3 4 5 9 22 24 27 28 30 35 47 51 53 54 63 74
-- SIMP beq_self_eq_true
set_option linter.unusedVariables false
set_option linter.unusedSimpArgs false
namespace Go.Proofs.Ytjnhpklhdikcdaa
open Sx
set_option maxRecDepth 100000
set_option maxHeartbeats 4000000
/-- A table, and a row of the names that there were. -/
def ext4 (T1 T : Tms') : Ents := (4, .vec 9 (.strs (alL (encL T1)))) :: tabS 3 T
theorem order_fn (l more : List Ac) (hl : l.length ≤ 9223372036854775807) (hl' : more.length ≤ 9223372036854775807) (hA : ∀ x ∈ l, okA x) (hA' : ∀ x ∈ more, okA x) : FnR Try.prog G 8 [.lst 6 (l.map acV), .lst 6 (more.map acV)] [] (.bool true) [] := by
  have c1 := heavy_fn l hl
  have c2 := heavy_fn more hl'
  refine FnR.of_walk (m := 60) (n0 := 16) tt_ok Try.func8 rfl rfl (by simp) (by simp [nmH]) ?_
  rw [show Try.f8.results.toList = [.tmp 4] from rfl]
  refine W.seqK fun K hK => W.regionK tt_ok ?_
  simp only [exOps_nil, exOps_cons, exOp_eq, nx_eq, cur_eq, stepQ, ev, ofV, parT, putT, erA, inB, opt, ret, onQ, ap, true_and, Nat.reduceEqDiff, Nat.reduceLT, Nat.reduceAdd, Nat.zero_add, if_false, reduceCtorEq]
  refine hK _ ?_
  clear hK K
  refine W.seqK fun Kx hKx => ?_
  refine W.seqK fun K hK => W.regionK tt_ok ?_
  simp only [exOps_cons, exOp_eq, exCall_eq, evL, ev, inB, true_and, Nat.reduceLT]
  refine CallK.pure _ _ alive_fn call9 (by simp only [ret, onQ, isTupL, true_and, Bool.false_eq_true, List.append_nil, vw.vwL, AV.free]; all_goals (and_intros <;> first | exact AV.subL_refl _ | omega | (simp []; done) | rfl | (simp [AV.subL_refl]; done) | (simp; exact AV.subL_refl _))) ?_
  simp only [Bool.not_true, exOps_nil, exOps_cons, exOp_eq, nx_eq, cur_eq, stepQ, ev, lk, putT, erA, inB, opt, bnd, req, ret, onQ, ap, unF, true_and, and_self, Nat.reduceEqDiff, Nat.reduceLT, Nat.reduceAdd, if_true, if_false, reduceCtorEq]
  refine hK _ ?_
  clear hK K
  refine W.cond (b := false) (by simp only [ev, lk, Nat.reduceEqDiff, if_true, if_false, reduceCtorEq]) (fun h => absurd h (by simp)) (fun _ => W.skip ?_)
  simp only [thn_normal]
  refine hKx _ ?_
  refine W.seqK fun Ky hKy => ?_
  cases h1 : hvB l with
  | true =>
    rw [h1] at c1
    refine W.seqK fun K hK => W.regionK tt_ok ?_
    simp only [exOps_cons, exOp_eq, exCall_eq, nx_eq, cur_eq, evL, stepQ, ev, lk, putT, erA, inB, opt, ret, onQ, ap, true_and, Nat.reduceEqDiff, Nat.reduceLT, Nat.reduceAdd, if_true, if_false, reduceCtorEq, Option.bind_some, Option.map_some]
    refine CallK.pure _ _ c1 call11 (by simp only [AV.nmIn, bnd, req, ret, onQ, AV.isTup, isTupL, true_and, and_self, Bool.false_eq_true, List.append_nil, vw.vwL, vw, AV.free, Bool.or_self]; all_goals (and_intros <;> first | exact AV.subL_refl _ | omega | (simp [AV.sub]; done) | rfl | (simp [AV.subL_refl]; done) | (simp; exact AV.subL_refl _))) ?_
    simp only [↓gTF, ↓nTF, exOps_nil, exOps_cons, exOp_eq, nx_eq, cur_eq, stepQ, ev, ofV, lk, putT, erA, inB, opt, bnd, req, ret, onQ, ap, pickF, true_and, and_self, Nat.reduceEqDiff, Nat.reduceLT, Nat.reduceAdd, if_true, if_false, reduceCtorEq, List.getElem?_cons_zero, List.getElem?_cons_succ, Option.bind_some]
    refine hK _ ?_
    clear hK K
    refine W.cond (b := true) (by simp only [ev, lk, Nat.reduceEqDiff, if_true, if_false, reduceCtorEq]) (fun _ => ?_) (fun h => absurd h (by simp))
    refine W.seqK fun K hK => W.regionK tt_ok ?_
    simp only [exOps_nil, exOps_cons, exOp_eq, nx_eq, cur_eq, stepQ, ev, ofV, putT, erA, inB, opt, ret, onQ, ap, true_and, Nat.reduceEqDiff, Nat.reduceLT, Nat.reduceAdd, if_true, if_false, reduceCtorEq]
    refine hK _ ?_
    clear hK K
    refine W.ret ?_
    simp only [fin_ret, finB, resQ, resV, leL, AV.nmIn, entsIn, lk, opt, bnd, req, ret, onQ, AV.isTup, thn_ret, and_self, Nat.reduceEqDiff, if_true, if_false, reduceCtorEq]
    done
  | false =>
    rw [h1] at c1
    cases h2 : hvB more with
    | true =>
      rw [h2] at c2
      refine W.seqK fun K hK => W.regionK tt_ok ?_
      simp only [exOps_cons, exOp_eq, exCall_eq, nx_eq, cur_eq, evL, stepQ, ev, lk, putT, erA, inB, opt, ret, onQ, ap, true_and, Nat.reduceEqDiff, Nat.reduceLT, Nat.reduceAdd, if_true, if_false, reduceCtorEq, Option.bind_some, Option.map_some]
      refine CallK.pure _ _ c1 call11 (by simp only [AV.nmIn, bnd, req, ret, onQ, AV.isTup, isTupL, true_and, and_self, Bool.false_eq_true, List.append_nil, vw.vwL, vw, AV.free, Bool.or_self]; all_goals (and_intros <;> first | exact AV.subL_refl _ | omega | (simp [AV.sub]; done) | rfl | (simp [AV.subL_refl]; done) | (simp; exact AV.subL_refl _))) ?_
      simp only [↓gFF, ↓nFF, exOps_cons, exOp_eq, exCall_eq, nx_eq, cur_eq, evL, stepQ, ev, lk, putT, erA, inB, opt, ret, onQ, ap, and_true, true_and, Nat.reduceEqDiff, Nat.reduceLT, Nat.reduceAdd, if_true, if_false, reduceCtorEq, List.getElem?_cons_zero, List.getElem?_cons_succ, Option.bind_some, Option.map_some]
      refine CallK.pure _ _ c2 call11 (by simp only [AV.nmIn, bnd, req, ret, onQ, AV.isTup, isTupL, true_and, and_self, Bool.false_eq_true, List.append_nil, vw.vwL, vw, AV.free, Bool.or_self]; all_goals (and_intros <;> first | exact AV.subL_refl _ | omega | (simp [AV.sub]; done) | rfl | (simp [AV.subL_refl]; done) | (simp; exact AV.subL_refl _))) ?_
      simp only [exOps_nil, exOps_cons, exOp_eq, nx_eq, cur_eq, stepQ, ev, lk, putT, erA, inB, opt, bnd, req, ret, onQ, ap, pickF, true_and, and_self, Nat.reduceEqDiff, Nat.reduceLT, Nat.reduceAdd, if_true, if_false, reduceCtorEq]
      refine hK _ ?_
      clear hK K
      refine W.cond (b := true) (by simp only [ev, lk, Nat.reduceEqDiff, if_true, if_false, reduceCtorEq]) (fun _ => ?_) (fun h => absurd h (by simp))
      refine W.seqK fun K hK => W.regionK tt_ok ?_
      simp only [exOps_nil, exOps_cons, exOp_eq, nx_eq, cur_eq, stepQ, ev, ofV, putT, erA, inB, opt, ret, onQ, ap, true_and, Nat.reduceEqDiff, Nat.reduceLT, Nat.reduceAdd, if_true, if_false, reduceCtorEq]
      refine hK _ ?_
      clear hK K
      refine W.ret ?_
      simp only [fin_ret, finB, resQ, resV, leL, AV.nmIn, entsIn, lk, opt, bnd, req, ret, onQ, AV.isTup, thn_ret, and_self, Nat.reduceEqDiff, if_true, if_false, reduceCtorEq]
      done
    | false =>
      rw [h2] at c2
      refine W.seqK fun K hK => W.regionK tt_ok ?_
      simp only [exOps_cons, exOp_eq, exCall_eq, nx_eq, cur_eq, evL, stepQ, ev, lk, putT, erA, inB, opt, ret, onQ, ap, true_and, Nat.reduceEqDiff, Nat.reduceLT, Nat.reduceAdd, if_true, if_false, reduceCtorEq, Option.bind_some, Option.map_some]
      refine CallK.pure _ _ c1 call11 (by simp only [AV.nmIn, bnd, req, ret, onQ, AV.isTup, isTupL, true_and, and_self, Bool.false_eq_true, List.append_nil, vw.vwL, vw, AV.free, Bool.or_self]; all_goals (and_intros <;> first | exact AV.subL_refl _ | omega | (simp [AV.sub]; done) | rfl | (simp [AV.subL_refl]; done) | (simp; exact AV.subL_refl _))) ?_
      simp only [↓gFF, ↓nFF, exOps_cons, exOp_eq, exCall_eq, nx_eq, cur_eq, evL, stepQ, ev, lk, putT, erA, inB, opt, ret, onQ, ap, and_true, true_and, Nat.reduceEqDiff, Nat.reduceLT, Nat.reduceAdd, if_true, if_false, reduceCtorEq, List.getElem?_cons_zero, List.getElem?_cons_succ, Option.bind_some, Option.map_some]
      refine CallK.pure _ _ c2 call11 (by simp only [AV.nmIn, bnd, req, ret, onQ, AV.isTup, isTupL, true_and, and_self, Bool.false_eq_true, List.append_nil, vw.vwL, vw, AV.free, Bool.or_self]; all_goals (and_intros <;> first | exact AV.subL_refl _ | omega | (simp [AV.sub]; done) | rfl | (simp [AV.subL_refl]; done) | (simp; exact AV.subL_refl _))) ?_
      simp only [exOps_nil, exOps_cons, exOp_eq, nx_eq, cur_eq, stepQ, ev, lk, putT, erA, inB, opt, bnd, req, ret, onQ, ap, pickF, true_and, and_self, Nat.reduceEqDiff, Nat.reduceLT, Nat.reduceAdd, if_true, if_false, reduceCtorEq]
      refine hK _ ?_
      clear hK K
      refine W.cond (b := false) (by simp only [ev, lk, Nat.reduceEqDiff, if_true, if_false, reduceCtorEq]) (fun h => absurd h (by simp)) (fun _ => W.skip ?_)
      simp only [thn_normal]
      refine hKy _ ?_
      have hn1 := hvB_len h1
      have hn2 := hvB_len h2
      have cn := ((new_fn.rename 64 161).rename 16 162).rename 32 163
      simp [AV.map, AV.mapL, enMap, Ent.map, swp] at cn
      refine W.seqK fun K hK => W.regionK tt_ok ?_
      simp only [exOps_cons, exOp_eq, exCall_eq, evL, ev, inB, true_and, Nat.reduceLT]
      refine CallK.with [] [(161, .obj 53 (.agg [.mp 162, .mp 163, .nils])), (162, .mset (.strs [])), (163, .mset (.strs []))] _ _ cn call10 (by simp only [ret, onQ, isTupL, true_and, Bool.false_eq_true, List.append_nil, vw.vwL, AV.free]; all_goals (and_intros <;> first | exact AV.subL_refl _ | omega | (simp [entsFree, Ent.free]; done) | rfl | (simp [AV.subL_refl]; done))) (by simp [leL]) (by intro n hn; first | (left; revert hn; simp [Nm, lk]; done) | (right; revert hn; simp only [Nm, lk]; split <;> simp <;> omega) | (by_cases h1 : Nm [] n; exact .inl h1; right; revert hn h1; simp only [Nm, lk]; split <;> (try split) <;> (try split) <;> (try split) <;> (try simp) <;> (try omega))) (by simp [entsIn]) ?_
      simp only [callDel, exOps_nil, exOps_cons, exOp_eq, nx_eq, cur_eq, stepQ, ev, lk, putT, erA, inB, opt, ret, onQ, ap, up, er, true_and, Nat.reduceEqDiff, Nat.reduceLT, Nat.reduceAdd, if_true, if_false, reduceCtorEq, List.nil_append, List.cons_append, List.map_cons, List.map_nil, List.reverse_cons, List.reverse_nil]
      refine hK _ ?_
      clear hK K
      refine W.swap 0 161 (by simp [Nm, lk]) ?_
      refine W.swap 1 162 (by simp [Nm, lk, St.swap]) ?_
      refine W.swap 2 163 (by simp [Nm, lk, St.swap]) ?_
      simp [St.swap, tmMap, enMap, swp, AV.map, AV.mapL, Ent.map]
      refine W.seqK fun Kz hKz => ?_
      refine W.seqK fun K hK => W.regionK tt_ok ?_
      simp only [exOps_nil, exOps_cons, exOp_eq, nx_eq, cur_eq, stepQ, ev, ofV, lk, putT, erA, inB, opt, bnd, req, ret, onQ, ap, binG, eqOp, true_and, and_self, Nat.reduceEqDiff, Nat.reduceLT, Nat.reduceAdd, if_true, if_false, reduceCtorEq, tt_24]
      refine hK _ ?_
      clear hK K
      refine W.cond (b := false) (by simp only [ev, lk, Nat.reduceEqDiff, if_true, if_false, reduceCtorEq]) (fun h => absurd h (by simp)) (fun _ => W.skip ?_)
      simp only [thn_normal]
      refine hKz _ ?_
      refine W.seqK fun Kl hKl => ?_
      refine W.seqK fun K hK => W.regionK tt_ok ?_
      simp only [exOps_nil, exOps_cons, exOp_eq, exCall_eq, nx_eq, cur_eq, evL, stepQ, ev, ofV, lk, putT, erA, inB, opt, bnd, req, ret, onQ, ap, bltQ, bltV, lenF, true_and, and_self, or_false, Nat.reduceEqDiff, Nat.reduceLT, Nat.reduceAdd, if_true, if_false, reduceCtorEq, List.getElem?_cons_zero, Option.bind_some, Option.map_some, tt_22, List.length_map]
      refine hK _ ?_
      clear hK K
      refine W.blockK ?_
      refine W.loopS (fun k : Nat => k ≤ l.length) (fun k => ⟨[(0, .lst 6 (l.map acV)), (1, .lst 6 (more.map acV)), (5, .ptr 0 0 0 1), (23, .lst 6 (l.map acV)), (24, .int .i64 (l.length : Int)), (25, .int .i64 (k : Int))], tabS 3 (tk [] l k), 32, 60⟩) (fun k => l.length - k) 0 (by simp) (by simp [tabS, tk_zero, tabE, wk, leL, lk, nmT, nmE, nmH, AV.nmIn, AV.nmInL, Ent.nmIn]) ?_
      intro k hk K3 hK3
      by_cases hlt : k < l.length
      · have hok0 := okTs_nil
        have hl0 : ([] : Tms').length = 0 := rfl
        have hAa := hA
        have hml : (l.map acV).length = l.length := List.length_map ..
        generalize hT0 : ([] : Tms') = T0 at *
        generalize l = acts at *
        have c := made_fn (tk T0 acts k) (tk_ok hok0 acts k) (by have := tk_len T0 acts k; omega) acts[k] (hAa _ (List.getElem_mem ..))
        rw [← tk_succ T0 acts k hlt] at c
        have he := ac_get acts k hlt
        have l1 : (k : Int) < (acts.length : Nat) := by omega
        have hwk : IntKind.i64.wrap ((k : Int) + 1) = ((k + 1 : Nat) : Int) := wrap_up k (by omega)
        have hup := tk_up (T := T0) (l := acts) hlt
        simp only [acV] at c
        generalize acts[k] = x at *
        generalize mdN (tk T0 acts k) x = r at *
        by_cases hs1 : tk T0 acts (k + 1) = []
        · have hs0 : tk T0 acts k = [] := Classical.byContradiction fun q => hup q hs1
          rw [hs0, hs1, tabS_nil, tabS_nil] at c
          simp only [hs0, tabS_nil, tabE] at c ⊢
          refine W.seqK fun K hK => W.regionK tt_ok ?_
          simp only [decide_true, exOps_nil, exOps_cons, exOp_eq, nx_eq, cur_eq, stepQ, ev, lk, putT, erA, inB, opt, bnd, req, ret, onQ, ap, binG, binF, intF, true_and, and_self, Nat.reduceEqDiff, Nat.reduceLT, Nat.reduceAdd, if_true, if_false, reduceCtorEq, l1]
          refine hK _ ?_
          clear hK K
          refine W.seqK fun K hK => W.cond (b := true) (by simp only [ev, lk, Nat.reduceEqDiff, if_true, if_false, reduceCtorEq]) (fun _ => W.skip ?_) (fun h => absurd h (by simp))
          rw [thn_normal]
          refine hK _ ?_
          clear hK K
          refine W.seqK fun K hK => W.blockK ?_
          refine W.seqK fun K hK => W.regionK tt_ok ?_
          simp only [exOps_nil, exOps_cons, exOp_eq, nx_eq, cur_eq, stepQ, ev, lk, putT, erA, inB, opt, bnd, req, ret, onQ, ap, up, er, AV.isTup, AV.isAgg, Kd.elem, ixA, asI, ldP, ldC, ldS, Kd.agg, comps, szL, csize, takeI, takeC, dropC, stP, stE, stC, stS, and_true, true_and, and_self, Nat.reduceEqDiff, Nat.reduceLT, Nat.reduceLeDiff, Nat.reduceAdd, Nat.reduceSub, Nat.sub_self, Int.toNat_natCast, Nat.le_refl, Nat.add_zero, Nat.zero_add, if_true, if_false, reduceCtorEq, Option.bind_some, Option.map_some, List.append_nil, List.nil_append, tt_22, tt_30, he]
          refine ⟨by rw [hml]; omega, ?_⟩
          refine hK _ ?_
          clear hK K
          refine W.region tt_ok ?_
          simp only [exOps_cons, exOp_eq, exCall_eq, nx_eq, cur_eq, evL, stepQ, ev, lk, putT, erA, inB, opt, bnd, req, ret, onQ, ap, ldP, ldE, ldC, ldS, Kd.agg, comps, csize, takeI, takeC, dropC, true_and, and_self, Nat.reduceEqDiff, Nat.reduceLT, Nat.reduceLeDiff, Nat.reduceAdd, Nat.reduceSub, Nat.sub_self, Nat.le_refl, if_true, if_false, reduceCtorEq, Option.bind_some, Option.map_some, tt_30]
          refine CallK.with [(0, .obj 53 (.agg [.mp 1, .mp 2, .nils])), (1, .mset (.strs [])), (2, .mset (.strs []))] [(0, .obj 53 (.agg [.mp 1, .mp 2, .nils])), (1, .mset (.strs [])), (2, .mset (.strs []))] _ _ c call13 (by simp only [AV.nmIn, bnd, req, ret, onQ, AV.isTup, isTupL, and_true, true_and, and_self, Bool.false_eq_true, List.append_nil, vw.vwL, vw, AV.free, AV.freeL, Bool.or_self]; all_goals (and_intros <;> first | exact AV.subL_refl _ | omega | (simp [AV.sub, entsFree, Ent.free]; done) | rfl | (simp [AV.subL_refl]; done))) (by simp [leL, lk]) (by intro n hn; first | (left; revert hn; simp [Nm, lk]; done) | (right; revert hn; simp only [Nm, lk]; split <;> simp <;> omega) | (by_cases h1 : Nm [(0, .obj 53 (.agg [.mp 1, .mp 2, .nils])), (1, .mset (.strs [])), (2, .mset (.strs []))] n; exact .inl h1; right; revert hn h1; simp only [Nm, lk]; split <;> (try split) <;> (try split) <;> (try split) <;> (try simp) <;> (try omega))) (by simp [entsIn, Ent.nmIn, AV.nmIn, AV.nmInL, Nm, lk]) ?_
          simp only [callDel, exOps_nil, nx_eq, putT, erA, ap, up, er, thn_normal, inb_normal, Nat.reduceEqDiff, Nat.reduceAdd, if_true, if_false, reduceCtorEq, List.nil_append, List.cons_append, List.map_cons, List.map_nil, List.reverse_cons, List.reverse_nil]
          refine hK _ ?_
          refine W.region tt_ok ?_
          simp only [exOps_nil, exOps_cons, exOp_eq, nx_eq, cur_eq, stepQ, ev, ofV, lk, putT, erA, inB, opt, bnd, req, ret, onQ, ap, binG, binF, intF, thn_normal, true_and, and_self, Nat.reduceEqDiff, Nat.reduceLT, Nat.reduceAdd, if_true, if_false, reduceCtorEq, hwk]
          refine hK3 _ (k + 1) 3 144 (by omega) (by omega) (by simp [Nm, lk]) ?_
          simp [tabS, hs1, tabE, St.swap, tmMap, enMap, swp, AV.map, AV.mapL, Ent.map, wk, leL, lk, nmT, nmE, nmH, AV.nmIn, AV.nmInL, Ent.nmIn]
        · by_cases hs0 : tk T0 acts k = []
          · rw [hs0, tabS_nil, tabS_ne 992 hs1] at c
            have c := mv0 992 144 (by omega) (by omega) (by omega) rfl c
            simp only [hs0, tabS_nil, tabE, tbX] at c ⊢
            refine W.seqK fun K hK => W.regionK tt_ok ?_
            simp only [decide_true, exOps_nil, exOps_cons, exOp_eq, nx_eq, cur_eq, stepQ, ev, lk, putT, erA, inB, opt, bnd, req, ret, onQ, ap, binG, binF, intF, true_and, and_self, Nat.reduceEqDiff, Nat.reduceLT, Nat.reduceAdd, if_true, if_false, reduceCtorEq, l1]
            refine hK _ ?_
            clear hK K
            refine W.seqK fun K hK => W.cond (b := true) (by simp only [ev, lk, Nat.reduceEqDiff, if_true, if_false, reduceCtorEq]) (fun _ => W.skip ?_) (fun h => absurd h (by simp))
            rw [thn_normal]
            refine hK _ ?_
            clear hK K
            refine W.seqK fun K hK => W.blockK ?_
            refine W.seqK fun K hK => W.regionK tt_ok ?_
            simp only [exOps_nil, exOps_cons, exOp_eq, nx_eq, cur_eq, stepQ, ev, lk, putT, erA, inB, opt, bnd, req, ret, onQ, ap, up, er, AV.isTup, AV.isAgg, Kd.elem, ixA, asI, ldP, ldC, ldS, Kd.agg, comps, szL, csize, takeI, takeC, dropC, stP, stE, stC, stS, and_true, true_and, and_self, Nat.reduceEqDiff, Nat.reduceLT, Nat.reduceLeDiff, Nat.reduceAdd, Nat.reduceSub, Nat.sub_self, Int.toNat_natCast, Nat.le_refl, Nat.add_zero, Nat.zero_add, if_true, if_false, reduceCtorEq, Option.bind_some, Option.map_some, List.append_nil, List.nil_append, tt_22, tt_30, he]
            refine ⟨by rw [hml]; omega, ?_⟩
            refine hK _ ?_
            clear hK K
            refine W.region tt_ok ?_
            simp only [exOps_cons, exOp_eq, exCall_eq, nx_eq, cur_eq, evL, stepQ, ev, lk, putT, erA, inB, opt, bnd, req, ret, onQ, ap, ldP, ldE, ldC, ldS, Kd.agg, comps, csize, takeI, takeC, dropC, true_and, and_self, Nat.reduceEqDiff, Nat.reduceLT, Nat.reduceLeDiff, Nat.reduceAdd, Nat.reduceSub, Nat.sub_self, Nat.le_refl, if_true, if_false, reduceCtorEq, Option.bind_some, Option.map_some, tt_30]
            refine CallK.with [(0, .obj 53 (.agg [.mp 1, .mp 2, .nils])), (1, .mset (.strs [])), (2, .mset (.strs []))] [(0, .obj 53 (.agg [.mp 1, .mp 2, .sl 144 1 0 (encL (tk T0 acts (k + 1))).length])), (1, .mset (.strs (nmL (encL (tk T0 acts (k + 1)))))), (2, .mset (.strs (tmL (encL (tk T0 acts (k + 1)))))), (144, .vec 9 (.strs (alL (encL (tk T0 acts (k + 1))))))] _ _ c call13 (by simp only [AV.nmIn, bnd, req, ret, onQ, AV.isTup, isTupL, and_true, true_and, and_self, Bool.false_eq_true, List.append_nil, vw.vwL, vw, AV.free, AV.freeL, Bool.or_self]; all_goals (and_intros <;> first | exact AV.subL_refl _ | omega | (simp [AV.sub, entsFree, Ent.free, Row.free]; done) | rfl | (simp [AV.subL_refl]; done))) (by simp [leL, lk]) (by intro n hn; first | (left; revert hn; simp [Nm, lk]; done) | (right; revert hn; simp only [Nm, lk]; split <;> simp <;> omega) | (by_cases h1 : Nm [(0, .obj 53 (.agg [.mp 1, .mp 2, .nils])), (1, .mset (.strs [])), (2, .mset (.strs []))] n; exact .inl h1; right; revert hn h1; simp only [Nm, lk]; split <;> (try split) <;> (try split) <;> (try split) <;> (try simp) <;> (try omega))) (by simp [entsIn, Ent.nmIn, AV.nmIn, AV.nmInL, Nm, lk]) ?_
            simp only [callDel, exOps_nil, nx_eq, putT, erA, ap, up, er, thn_normal, inb_normal, Nat.reduceEqDiff, Nat.reduceAdd, if_true, if_false, reduceCtorEq, List.nil_append, List.cons_append, List.map_cons, List.map_nil, List.reverse_cons, List.reverse_nil]
            refine hK _ ?_
            refine W.region tt_ok ?_
            simp only [exOps_nil, exOps_cons, exOp_eq, nx_eq, cur_eq, stepQ, ev, ofV, lk, putT, erA, inB, opt, bnd, req, ret, onQ, ap, binG, binF, intF, thn_normal, true_and, and_self, Nat.reduceEqDiff, Nat.reduceLT, Nat.reduceAdd, if_true, if_false, reduceCtorEq, hwk]
            refine hK3 _ (k + 1) 3 144 (by omega) (by omega) (by simp [Nm, lk]) ?_
            simp [tabS, hs1, tbX, St.swap, tmMap, enMap, swp, AV.map, AV.mapL, Ent.map, Row.map, wk, leL, lk, nmT, nmE, nmH, AV.nmIn, AV.nmInL, Ent.nmIn, Row.nmIn]
          · rw [tabS_ne 3 hs0, tabS_ne 992 hs1] at c
            have c := mv1 992 144 (by omega) (by omega) (by omega) rfl c
            simp only [tabS_ne 3 hs0, tbX] at c ⊢
            refine W.seqK fun K hK => W.regionK tt_ok ?_
            simp only [decide_true, exOps_nil, exOps_cons, exOp_eq, nx_eq, cur_eq, stepQ, ev, lk, putT, erA, inB, opt, bnd, req, ret, onQ, ap, binG, binF, intF, true_and, and_self, Nat.reduceEqDiff, Nat.reduceLT, Nat.reduceAdd, if_true, if_false, reduceCtorEq, l1]
            refine hK _ ?_
            clear hK K
            refine W.seqK fun K hK => W.cond (b := true) (by simp only [ev, lk, Nat.reduceEqDiff, if_true, if_false, reduceCtorEq]) (fun _ => W.skip ?_) (fun h => absurd h (by simp))
            rw [thn_normal]
            refine hK _ ?_
            clear hK K
            refine W.seqK fun K hK => W.blockK ?_
            refine W.seqK fun K hK => W.regionK tt_ok ?_
            simp only [exOps_nil, exOps_cons, exOp_eq, nx_eq, cur_eq, stepQ, ev, lk, putT, erA, inB, opt, bnd, req, ret, onQ, ap, up, er, AV.isTup, AV.isAgg, Kd.elem, ixA, asI, ldP, ldC, ldS, Kd.agg, comps, szL, csize, takeI, takeC, dropC, stP, stE, stC, stS, and_true, true_and, and_self, Nat.reduceEqDiff, Nat.reduceLT, Nat.reduceLeDiff, Nat.reduceAdd, Nat.reduceSub, Nat.sub_self, Int.toNat_natCast, Nat.le_refl, Nat.add_zero, Nat.zero_add, if_true, if_false, reduceCtorEq, Option.bind_some, Option.map_some, List.append_nil, List.nil_append, tt_22, tt_30, he]
            refine ⟨by rw [hml]; omega, ?_⟩
            refine hK _ ?_
            clear hK K
            refine W.region tt_ok ?_
            simp only [exOps_cons, exOp_eq, exCall_eq, nx_eq, cur_eq, evL, stepQ, ev, lk, putT, erA, inB, opt, bnd, req, ret, onQ, ap, ldP, ldE, ldC, ldS, Kd.agg, comps, csize, takeI, takeC, dropC, true_and, and_self, Nat.reduceEqDiff, Nat.reduceLT, Nat.reduceLeDiff, Nat.reduceAdd, Nat.reduceSub, Nat.sub_self, Nat.le_refl, if_true, if_false, reduceCtorEq, Option.bind_some, Option.map_some, tt_30]
            refine CallK.with [(0, .obj 53 (.agg [.mp 1, .mp 2, .sl 3 1 0 (encL (tk T0 acts k)).length])), (1, .mset (.strs (nmL (encL (tk T0 acts k))))), (2, .mset (.strs (tmL (encL (tk T0 acts k))))), (3, .vec 9 (.strs (alL (encL (tk T0 acts k)))))] [(0, .obj 53 (.agg [.mp 1, .mp 2, .sl 144 1 0 (encL (tk T0 acts (k + 1))).length])), (1, .mset (.strs (nmL (encL (tk T0 acts (k + 1)))))), (2, .mset (.strs (tmL (encL (tk T0 acts (k + 1)))))), (144, .vec 9 (.strs (alL (encL (tk T0 acts (k + 1))))))] _ _ c call13 (by simp only [AV.nmIn, bnd, req, ret, onQ, AV.isTup, isTupL, and_true, true_and, and_self, Bool.false_eq_true, List.append_nil, vw.vwL, vw, AV.free, AV.freeL, Bool.or_self]; all_goals (and_intros <;> first | exact AV.subL_refl _ | omega | (simp [AV.sub, entsFree, Ent.free, Row.free]; done) | rfl | (simp [AV.subL_refl]; done))) (by simp [leL, lk]) (by intro n hn; first | (left; revert hn; simp [Nm, lk]; done) | (right; revert hn; simp only [Nm, lk]; split <;> simp <;> omega) | (by_cases h1 : Nm [(0, .obj 53 (.agg [.mp 1, .mp 2, .sl 3 1 0 (encL (tk T0 acts k)).length])), (1, .mset (.strs (nmL (encL (tk T0 acts k))))), (2, .mset (.strs (tmL (encL (tk T0 acts k))))), (3, .vec 9 (.strs (alL (encL (tk T0 acts k)))))] n; exact .inl h1; right; revert hn h1; simp only [Nm, lk]; split <;> (try split) <;> (try split) <;> (try split) <;> (try simp) <;> (try omega))) (by simp [entsIn, Ent.nmIn, Row.nmIn, AV.nmIn, AV.nmInL, Nm, lk]) ?_
            simp only [callDel, exOps_nil, nx_eq, putT, erA, ap, up, er, thn_normal, inb_normal, Nat.reduceEqDiff, Nat.reduceAdd, if_true, if_false, reduceCtorEq, List.nil_append, List.cons_append, List.map_cons, List.map_nil, List.reverse_cons, List.reverse_nil]
            refine hK _ ?_
            refine W.region tt_ok ?_
            simp only [exOps_nil, exOps_cons, exOp_eq, nx_eq, cur_eq, stepQ, ev, ofV, lk, putT, erA, inB, opt, bnd, req, ret, onQ, ap, binG, binF, intF, thn_normal, true_and, and_self, Nat.reduceEqDiff, Nat.reduceLT, Nat.reduceAdd, if_true, if_false, reduceCtorEq, hwk]
            refine hK3 _ (k + 1) 3 144 (by omega) (by omega) (by simp [Nm, lk]) ?_
            simp [tabS, hs1, tbX, St.swap, tmMap, enMap, swp, AV.map, AV.mapL, Ent.map, Row.map, wk, leL, lk, nmT, nmE, nmH, AV.nmIn, AV.nmInL, Ent.nmIn, Row.nmIn]
      · obtain rfl : k = l.length := by omega
        have l1 : ¬ ((l.length : Nat) : Int) < (l.length : Nat) := by omega
        refine W.seqK fun K hK => W.regionK tt_ok ?_
        simp only [decide_false, exOps_nil, exOps_cons, exOp_eq, nx_eq, cur_eq, stepQ, ev, lk, putT, erA, inB, opt, bnd, req, ret, onQ, ap, binG, binF, intF, true_and, and_self, Nat.reduceEqDiff, Nat.reduceLT, Nat.reduceAdd, if_true, if_false, reduceCtorEq, l1]
        refine hK _ ?_
        clear hK K
        refine W.seqK fun K hK => W.cond (b := false) (by simp only [ev, lk, Nat.reduceEqDiff, if_true, if_false, reduceCtorEq]) (fun h => absurd h (by simp)) (fun _ => W.exit ?_)
        simp only [thn_normal, thn_exit, inb_exit, if_true]
        clear hK K
        refine hKl _ ?_
        have hok1 := tk_ok okTs_nil l l.length
        have hl1 := tk_len [] l l.length
        simp only [List.length_nil] at hl1
        generalize tk [] l l.length = T1 at *
        have c3 := sSame_fn (alL (encL T1)) (alL (encL T1)) (by rw [alL_len, encL_len]; omega)
        rw [sEqs] at c3
        have c0 := sSame_fn [] [] (by simp)
        rw [sEqs] at c0
        by_cases ht1 : T1 = []
        · subst ht1
          have ca := all_0
          simp only [tabS_nil, tabE] at ca ⊢
          refine W.seqK fun K hK => W.regionK tt_ok ?_
          simp only [exOps_cons, exOp_eq, exCall_eq, nx_eq, cur_eq, evL, stepQ, ev, lk, putT, erA, inB, opt, ret, onQ, ap, true_and, Nat.reduceEqDiff, Nat.reduceLT, Nat.reduceAdd, if_true, if_false, reduceCtorEq, Option.bind_some, Option.map_some]
          refine CallK.with [(0, .obj 53 (.agg [.mp 1, .mp 2, .nils])), (1, .mset (.strs [])), (2, .mset (.strs []))] [(0, .obj 53 (.agg [.mp 1, .mp 2, .nils])), (1, .mset (.strs [])), (2, .mset (.strs []))] _ _ ca call14 (by simp only [AV.nmIn, bnd, req, ret, onQ, AV.isTup, isTupL, and_true, true_and, and_self, Bool.false_eq_true, List.append_nil, vw.vwL, vw, AV.free, Bool.or_self]; all_goals (and_intros <;> first | exact AV.subL_refl _ | omega | (simp [AV.sub, entsFree, Ent.free]; done) | rfl | (simp [AV.subL_refl]; done))) (by simp [leL, lk]) (by intro n hn; first | (left; revert hn; simp [Nm, lk]; done) | (right; revert hn; simp only [Nm, lk]; split <;> simp <;> omega) | (by_cases h1 : Nm [(0, .obj 53 (.agg [.mp 1, .mp 2, .nils])), (1, .mset (.strs [])), (2, .mset (.strs []))] n; exact .inl h1; right; revert hn h1; simp only [Nm, lk]; split <;> (try split) <;> (try split) <;> (try split) <;> (try simp) <;> (try omega))) (by simp [entsIn, Ent.nmIn, AV.nmIn, AV.nmInL, Nm, lk]) ?_
          simp only [callDel, exOps_nil, exOps_cons, exOp_eq, nx_eq, cur_eq, stepQ, ev, lk, putT, erA, inB, opt, ret, onQ, ap, up, er, true_and, Nat.reduceEqDiff, Nat.reduceLT, Nat.reduceAdd, if_true, if_false, reduceCtorEq, List.nil_append, List.cons_append, List.map_cons, List.map_nil, List.reverse_cons, List.reverse_nil]
          refine hK _ ?_
          clear hK K
          refine W.seqK fun Km hKm => ?_
          refine W.seqK fun K hK => W.regionK tt_ok ?_
          simp only [exOps_nil, exOps_cons, exOp_eq, exCall_eq, nx_eq, cur_eq, evL, stepQ, ev, ofV, lk, putT, erA, inB, opt, bnd, req, ret, onQ, ap, bltQ, bltV, lenF, true_and, and_self, or_false, Nat.reduceEqDiff, Nat.reduceLT, Nat.reduceAdd, if_true, if_false, reduceCtorEq, List.getElem?_cons_zero, Option.bind_some, Option.map_some, tt_22, List.length_map]
          refine hK _ ?_
          clear hK K
          refine W.blockK ?_
          refine W.loopS (fun k : Nat => k ≤ more.length) (fun k => ⟨[(1, .lst 6 (more.map acV)), (5, .ptr 0 0 0 1), (8, .nils), (35, .lst 6 (more.map acV)), (36, .int .i64 (more.length : Int)), (37, .int .i64 (k : Int))], tabS 3 (tk [] more k), 32, 60⟩) (fun k => more.length - k) 0 (by simp) (by simp [tabS, *, tk_zero, tabE, wk, leL, lk, nmT, nmE, nmH, AV.nmIn, AV.nmInL, Ent.nmIn]) ?_
          intro k hk K3 hK3
          by_cases hlt : k < more.length
          · have hok0 := hok1
            have hl0 : ([] : Tms').length ≤ 60 := by first | omega | simp
            have hAa := hA'
            have hml : (more.map acV).length = more.length := List.length_map ..
            generalize hT0 : ([] : Tms') = T0 at *
            generalize more = acts at *
            have c := made_fn (tk T0 acts k) (tk_ok hok0 acts k) (by have := tk_len T0 acts k; omega) acts[k] (hAa _ (List.getElem_mem ..))
            rw [← tk_succ T0 acts k hlt] at c
            have he := ac_get acts k hlt
            have l1 : (k : Int) < (acts.length : Nat) := by omega
            have hwk : IntKind.i64.wrap ((k : Int) + 1) = ((k + 1 : Nat) : Int) := wrap_up k (by omega)
            have hup := tk_up (T := T0) (l := acts) hlt
            simp only [acV] at c
            generalize acts[k] = x at *
            generalize mdN (tk T0 acts k) x = r at *
            by_cases hs1 : tk T0 acts (k + 1) = []
            · have hs0 : tk T0 acts k = [] := Classical.byContradiction fun q => hup q hs1
              rw [hs0, hs1, tabS_nil, tabS_nil] at c
              simp only [hs0, tabS_nil, tabE] at c ⊢
              refine W.seqK fun K hK => W.regionK tt_ok ?_
              simp only [decide_true, exOps_nil, exOps_cons, exOp_eq, nx_eq, cur_eq, stepQ, ev, lk, putT, erA, inB, opt, bnd, req, ret, onQ, ap, binG, binF, intF, true_and, and_self, Nat.reduceEqDiff, Nat.reduceLT, Nat.reduceAdd, if_true, if_false, l1]
              refine hK _ ?_
              clear hK K
              refine W.seqK fun K hK => W.cond (b := true) (by simp only [ev, lk, Nat.reduceEqDiff, if_true, if_false]) (fun _ => W.skip ?_) (fun h => absurd h (by simp))
              rw [thn_normal]
              refine hK _ ?_
              clear hK K
              refine W.seqK fun K hK => W.blockK ?_
              refine W.seqK fun K hK => W.regionK tt_ok ?_
              simp only [exOps_nil, exOps_cons, exOp_eq, nx_eq, cur_eq, stepQ, ev, lk, putT, erA, inB, opt, bnd, req, ret, onQ, ap, up, er, AV.isTup, AV.isAgg, Kd.elem, ixA, asI, ldP, ldC, ldS, Kd.agg, comps, szL, csize, takeI, takeC, dropC, stP, stE, stC, stS, and_true, true_and, and_self, Nat.reduceEqDiff, Nat.reduceLT, Nat.reduceLeDiff, Nat.reduceAdd, Nat.reduceSub, Nat.sub_self, Int.toNat_natCast, Nat.le_refl, Nat.add_zero, Nat.zero_add, if_true, if_false, reduceCtorEq, Option.bind_some, Option.map_some, List.append_nil, List.nil_append, tt_22, tt_30, he]
              refine ⟨by rw [hml]; omega, ?_⟩
              refine hK _ ?_
              clear hK K
              refine W.region tt_ok ?_
              simp only [exOps_cons, exOp_eq, exCall_eq, nx_eq, cur_eq, evL, stepQ, ev, lk, putT, erA, inB, opt, bnd, req, ret, onQ, ap, ldP, ldE, ldC, ldS, Kd.agg, comps, csize, takeI, takeC, dropC, true_and, and_self, Nat.reduceEqDiff, Nat.reduceLT, Nat.reduceLeDiff, Nat.reduceAdd, Nat.reduceSub, Nat.sub_self, Nat.le_refl, if_true, if_false, reduceCtorEq, Option.bind_some, Option.map_some, tt_30]
              refine CallK.with [(0, .obj 53 (.agg [.mp 1, .mp 2, .nils])), (1, .mset (.strs [])), (2, .mset (.strs []))] [(0, .obj 53 (.agg [.mp 1, .mp 2, .nils])), (1, .mset (.strs [])), (2, .mset (.strs []))] _ _ c call13 (by simp only [AV.nmIn, bnd, req, ret, onQ, AV.isTup, isTupL, and_true, true_and, and_self, Bool.false_eq_true, List.append_nil, vw.vwL, vw, AV.free, AV.freeL, Bool.or_self]; all_goals (and_intros <;> first | exact AV.subL_refl _ | omega | (simp [AV.sub, entsFree, Ent.free]; done) | rfl | (simp [AV.subL_refl]; done))) (by simp [leL, lk]) (by intro n hn; first | (left; revert hn; simp [Nm, lk]; done) | (right; revert hn; simp only [Nm, lk]; split <;> simp <;> omega) | (by_cases h1 : Nm [(0, .obj 53 (.agg [.mp 1, .mp 2, .nils])), (1, .mset (.strs [])), (2, .mset (.strs []))] n; exact .inl h1; right; revert hn h1; simp only [Nm, lk]; split <;> (try split) <;> (try split) <;> (try split) <;> (try simp) <;> (try omega))) (by simp [entsIn, Ent.nmIn, AV.nmIn, AV.nmInL, Nm, lk]) ?_
              simp only [callDel, exOps_nil, nx_eq, putT, erA, ap, up, er, thn_normal, inb_normal, Nat.reduceEqDiff, Nat.reduceAdd, if_true, if_false, reduceCtorEq, List.nil_append, List.cons_append, List.map_cons, List.map_nil, List.reverse_cons, List.reverse_nil]
              refine hK _ ?_
              refine W.region tt_ok ?_
              simp only [exOps_nil, exOps_cons, exOp_eq, nx_eq, cur_eq, stepQ, ev, ofV, lk, putT, erA, inB, opt, bnd, req, ret, onQ, ap, binG, binF, intF, thn_normal, true_and, and_self, Nat.reduceEqDiff, Nat.reduceLT, Nat.reduceAdd, if_true, if_false, hwk]
              refine hK3 _ (k + 1) 3 144 (by omega) (by omega) (by simp [Nm, lk]) ?_
              simp [tabS, hs1, tabE, St.swap, tmMap, enMap, swp, AV.map, AV.mapL, Ent.map, wk, leL, lk, nmT, nmE, nmH, AV.nmIn, AV.nmInL, Ent.nmIn]
            · by_cases hs0 : tk T0 acts k = []
              · rw [hs0, tabS_nil, tabS_ne 992 hs1] at c
                have c := mv0 992 144 (by omega) (by omega) (by omega) rfl c
                simp only [hs0, tabS_nil, tabE, tbX] at c ⊢
                refine W.seqK fun K hK => W.regionK tt_ok ?_
                simp only [decide_true, exOps_nil, exOps_cons, exOp_eq, nx_eq, cur_eq, stepQ, ev, lk, putT, erA, inB, opt, bnd, req, ret, onQ, ap, binG, binF, intF, true_and, and_self, Nat.reduceEqDiff, Nat.reduceLT, Nat.reduceAdd, if_true, if_false, l1]
                refine hK _ ?_
                clear hK K
                refine W.seqK fun K hK => W.cond (b := true) (by simp only [ev, lk, Nat.reduceEqDiff, if_true, if_false]) (fun _ => W.skip ?_) (fun h => absurd h (by simp))
                rw [thn_normal]
                refine hK _ ?_
                clear hK K
                refine W.seqK fun K hK => W.blockK ?_
                refine W.seqK fun K hK => W.regionK tt_ok ?_
                simp only [exOps_nil, exOps_cons, exOp_eq, nx_eq, cur_eq, stepQ, ev, lk, putT, erA, inB, opt, bnd, req, ret, onQ, ap, up, er, AV.isTup, AV.isAgg, Kd.elem, ixA, asI, ldP, ldC, ldS, Kd.agg, comps, szL, csize, takeI, takeC, dropC, stP, stE, stC, stS, and_true, true_and, and_self, Nat.reduceEqDiff, Nat.reduceLT, Nat.reduceLeDiff, Nat.reduceAdd, Nat.reduceSub, Nat.sub_self, Int.toNat_natCast, Nat.le_refl, Nat.add_zero, Nat.zero_add, if_true, if_false, reduceCtorEq, Option.bind_some, Option.map_some, List.append_nil, List.nil_append, tt_22, tt_30, he]
                refine ⟨by rw [hml]; omega, ?_⟩
                refine hK _ ?_
                clear hK K
                refine W.region tt_ok ?_
                simp only [exOps_cons, exOp_eq, exCall_eq, nx_eq, cur_eq, evL, stepQ, ev, lk, putT, erA, inB, opt, bnd, req, ret, onQ, ap, ldP, ldE, ldC, ldS, Kd.agg, comps, csize, takeI, takeC, dropC, true_and, and_self, Nat.reduceEqDiff, Nat.reduceLT, Nat.reduceLeDiff, Nat.reduceAdd, Nat.reduceSub, Nat.sub_self, Nat.le_refl, if_true, if_false, reduceCtorEq, Option.bind_some, Option.map_some, tt_30]
                refine CallK.with [(0, .obj 53 (.agg [.mp 1, .mp 2, .nils])), (1, .mset (.strs [])), (2, .mset (.strs []))] [(0, .obj 53 (.agg [.mp 1, .mp 2, .sl 144 1 0 (encL (tk T0 acts (k + 1))).length])), (1, .mset (.strs (nmL (encL (tk T0 acts (k + 1)))))), (2, .mset (.strs (tmL (encL (tk T0 acts (k + 1)))))), (144, .vec 9 (.strs (alL (encL (tk T0 acts (k + 1))))))] _ _ c call13 (by simp only [AV.nmIn, bnd, req, ret, onQ, AV.isTup, isTupL, and_true, true_and, and_self, Bool.false_eq_true, List.append_nil, vw.vwL, vw, AV.free, AV.freeL, Bool.or_self]; all_goals (and_intros <;> first | exact AV.subL_refl _ | omega | (simp [AV.sub, entsFree, Ent.free, Row.free]; done) | rfl | (simp [AV.subL_refl]; done))) (by simp [leL, lk]) (by intro n hn; first | (left; revert hn; simp [Nm, lk]; done) | (right; revert hn; simp only [Nm, lk]; split <;> simp <;> omega) | (by_cases h1 : Nm [(0, .obj 53 (.agg [.mp 1, .mp 2, .nils])), (1, .mset (.strs [])), (2, .mset (.strs []))] n; exact .inl h1; right; revert hn h1; simp only [Nm, lk]; split <;> (try split) <;> (try split) <;> (try split) <;> (try simp) <;> (try omega))) (by simp [entsIn, Ent.nmIn, AV.nmIn, AV.nmInL, Nm, lk]) ?_
                simp only [callDel, exOps_nil, nx_eq, putT, erA, ap, up, er, thn_normal, inb_normal, Nat.reduceEqDiff, Nat.reduceAdd, if_true, if_false, reduceCtorEq, List.nil_append, List.cons_append, List.map_cons, List.map_nil, List.reverse_cons, List.reverse_nil]
                refine hK _ ?_
                refine W.region tt_ok ?_
                simp only [exOps_nil, exOps_cons, exOp_eq, nx_eq, cur_eq, stepQ, ev, ofV, lk, putT, erA, inB, opt, bnd, req, ret, onQ, ap, binG, binF, intF, thn_normal, true_and, and_self, Nat.reduceEqDiff, Nat.reduceLT, Nat.reduceAdd, if_true, if_false, hwk]
                refine hK3 _ (k + 1) 3 144 (by omega) (by omega) (by simp [Nm, lk]) ?_
                simp [tabS, hs1, tbX, St.swap, tmMap, enMap, swp, AV.map, AV.mapL, Ent.map, Row.map, wk, leL, lk, nmT, nmE, nmH, AV.nmIn, AV.nmInL, Ent.nmIn, Row.nmIn]
              · rw [tabS_ne 3 hs0, tabS_ne 992 hs1] at c
                have c := mv1 992 144 (by omega) (by omega) (by omega) rfl c
                simp only [tabS_ne 3 hs0, tbX] at c ⊢
                refine W.seqK fun K hK => W.regionK tt_ok ?_
                simp only [decide_true, exOps_nil, exOps_cons, exOp_eq, nx_eq, cur_eq, stepQ, ev, lk, putT, erA, inB, opt, bnd, req, ret, onQ, ap, binG, binF, intF, true_and, and_self, Nat.reduceEqDiff, Nat.reduceLT, Nat.reduceAdd, if_true, if_false, l1]
                refine hK _ ?_
                clear hK K
                refine W.seqK fun K hK => W.cond (b := true) (by simp only [ev, lk, Nat.reduceEqDiff, if_true, if_false]) (fun _ => W.skip ?_) (fun h => absurd h (by simp))
                rw [thn_normal]
                refine hK _ ?_
                clear hK K
                refine W.seqK fun K hK => W.blockK ?_
                refine W.seqK fun K hK => W.regionK tt_ok ?_
                simp only [exOps_nil, exOps_cons, exOp_eq, nx_eq, cur_eq, stepQ, ev, lk, putT, erA, inB, opt, bnd, req, ret, onQ, ap, up, er, AV.isTup, AV.isAgg, Kd.elem, ixA, asI, ldP, ldC, ldS, Kd.agg, comps, szL, csize, takeI, takeC, dropC, stP, stE, stC, stS, and_true, true_and, and_self, Nat.reduceEqDiff, Nat.reduceLT, Nat.reduceLeDiff, Nat.reduceAdd, Nat.reduceSub, Nat.sub_self, Int.toNat_natCast, Nat.le_refl, Nat.add_zero, Nat.zero_add, if_true, if_false, reduceCtorEq, Option.bind_some, Option.map_some, List.append_nil, List.nil_append, tt_22, tt_30, he]
                refine ⟨by rw [hml]; omega, ?_⟩
                refine hK _ ?_
                clear hK K
                refine W.region tt_ok ?_
                simp only [exOps_cons, exOp_eq, exCall_eq, nx_eq, cur_eq, evL, stepQ, ev, lk, putT, erA, inB, opt, bnd, req, ret, onQ, ap, ldP, ldE, ldC, ldS, Kd.agg, comps, csize, takeI, takeC, dropC, true_and, and_self, Nat.reduceEqDiff, Nat.reduceLT, Nat.reduceLeDiff, Nat.reduceAdd, Nat.reduceSub, Nat.sub_self, Nat.le_refl, if_true, if_false, reduceCtorEq, Option.bind_some, Option.map_some, tt_30]
                refine CallK.with [(0, .obj 53 (.agg [.mp 1, .mp 2, .sl 3 1 0 (encL (tk T0 acts k)).length])), (1, .mset (.strs (nmL (encL (tk T0 acts k))))), (2, .mset (.strs (tmL (encL (tk T0 acts k))))), (3, .vec 9 (.strs (alL (encL (tk T0 acts k)))))] [(0, .obj 53 (.agg [.mp 1, .mp 2, .sl 144 1 0 (encL (tk T0 acts (k + 1))).length])), (1, .mset (.strs (nmL (encL (tk T0 acts (k + 1)))))), (2, .mset (.strs (tmL (encL (tk T0 acts (k + 1)))))), (144, .vec 9 (.strs (alL (encL (tk T0 acts (k + 1))))))] _ _ c call13 (by simp only [AV.nmIn, bnd, req, ret, onQ, AV.isTup, isTupL, and_true, true_and, and_self, Bool.false_eq_true, List.append_nil, vw.vwL, vw, AV.free, AV.freeL, Bool.or_self]; all_goals (and_intros <;> first | exact AV.subL_refl _ | omega | (simp [AV.sub, entsFree, Ent.free, Row.free]; done) | rfl | (simp [AV.subL_refl]; done))) (by simp [leL, lk]) (by intro n hn; first | (left; revert hn; simp [Nm, lk]; done) | (right; revert hn; simp only [Nm, lk]; split <;> simp <;> omega) | (by_cases h1 : Nm [(0, .obj 53 (.agg [.mp 1, .mp 2, .sl 3 1 0 (encL (tk T0 acts k)).length])), (1, .mset (.strs (nmL (encL (tk T0 acts k))))), (2, .mset (.strs (tmL (encL (tk T0 acts k))))), (3, .vec 9 (.strs (alL (encL (tk T0 acts k)))))] n; exact .inl h1; right; revert hn h1; simp only [Nm, lk]; split <;> (try split) <;> (try split) <;> (try split) <;> (try simp) <;> (try omega))) (by simp [entsIn, Ent.nmIn, Row.nmIn, AV.nmIn, AV.nmInL, Nm, lk]) ?_
                simp only [callDel, exOps_nil, nx_eq, putT, erA, ap, up, er, thn_normal, inb_normal, Nat.reduceEqDiff, Nat.reduceAdd, if_true, if_false, reduceCtorEq, List.nil_append, List.cons_append, List.map_cons, List.map_nil, List.reverse_cons, List.reverse_nil]
                refine hK _ ?_
                refine W.region tt_ok ?_
                simp only [exOps_nil, exOps_cons, exOp_eq, nx_eq, cur_eq, stepQ, ev, ofV, lk, putT, erA, inB, opt, bnd, req, ret, onQ, ap, binG, binF, intF, thn_normal, true_and, and_self, Nat.reduceEqDiff, Nat.reduceLT, Nat.reduceAdd, if_true, if_false, hwk]
                refine hK3 _ (k + 1) 3 144 (by omega) (by omega) (by simp [Nm, lk]) ?_
                simp [tabS, hs1, tbX, St.swap, tmMap, enMap, swp, AV.map, AV.mapL, Ent.map, Row.map, wk, leL, lk, nmT, nmE, nmH, AV.nmIn, AV.nmInL, Ent.nmIn, Row.nmIn]
          · obtain rfl : k = more.length := by omega
            have l1 : ¬ ((more.length : Nat) : Int) < (more.length : Nat) := by omega
            refine W.seqK fun K hK => W.regionK tt_ok ?_
            simp only [decide_false, exOps_nil, exOps_cons, exOp_eq, nx_eq, cur_eq, stepQ, ev, lk, putT, erA, inB, opt, bnd, req, ret, onQ, ap, binG, binF, intF, true_and, and_self, Nat.reduceEqDiff, Nat.reduceLT, Nat.reduceAdd, if_true, if_false, l1]
            refine hK _ ?_
            clear hK K
            refine W.seqK fun K hK => W.cond (b := false) (by simp only [ev, lk, Nat.reduceEqDiff, if_true, if_false]) (fun h => absurd h (by simp)) (fun _ => W.exit ?_)
            simp only [thn_normal, thn_exit, inb_exit, if_true]
            clear hK K
            refine hKm _ ?_
            generalize htt : tk [] more more.length = T2 at *
            have hl2 := tk_len [] more more.length
            rw [htt] at hl2
            simp only [List.length_nil] at hl2
            by_cases ht2 : T2 = []
            · simp only [ht2, tabS_nil, tabE]
              refine W.seqK fun K hK => W.regionK tt_ok ?_
              simp only [exOps_cons, exOp_eq, exCall_eq, nx_eq, cur_eq, evL, stepQ, ev, lk, putT, erA, inB, opt, ret, onQ, ap, true_and, Nat.reduceEqDiff, Nat.reduceLT, Nat.reduceAdd, if_true, if_false, Option.bind_some, Option.map_some]
              refine CallK.with [(0, .obj 53 (.agg [.mp 1, .mp 2, .nils])), (1, .mset (.strs [])), (2, .mset (.strs []))] [(0, .obj 53 (.agg [.mp 1, .mp 2, .nils])), (1, .mset (.strs [])), (2, .mset (.strs []))] _ _ ca call14 (by simp only [AV.nmIn, bnd, req, ret, onQ, AV.isTup, isTupL, and_true, true_and, and_self, Bool.false_eq_true, List.append_nil, vw.vwL, vw, AV.free, Bool.or_self]; all_goals (and_intros <;> first | exact AV.subL_refl _ | omega | (simp [AV.sub, entsFree, Ent.free]; done) | rfl | (simp [AV.subL_refl]; done))) (by simp [leL, lk]) (by intro n hn; first | (left; revert hn; simp [Nm, lk]; done) | (right; revert hn; simp only [Nm, lk]; split <;> simp <;> omega) | (by_cases h1 : Nm [(0, .obj 53 (.agg [.mp 1, .mp 2, .nils])), (1, .mset (.strs [])), (2, .mset (.strs []))] n; exact .inl h1; right; revert hn h1; simp only [Nm, lk]; split <;> (try split) <;> (try split) <;> (try split) <;> (try simp) <;> (try omega))) (by simp [entsIn, Ent.nmIn, AV.nmIn, AV.nmInL, Nm, lk]) ?_
              simp only [callDel, exOps_nil, exOps_cons, exOp_eq, nx_eq, cur_eq, stepQ, ev, lk, putT, erA, inB, opt, ret, onQ, ap, up, er, true_and, Nat.reduceEqDiff, Nat.reduceLT, Nat.reduceAdd, if_true, if_false, reduceCtorEq, List.nil_append, List.cons_append, List.map_cons, List.map_nil, List.reverse_cons, List.reverse_nil]
              refine hK _ ?_
              clear hK K
              refine W.seqK fun K hK => W.regionK tt_ok ?_
              simp only [↓gTT, ↓nTT, decide_true, exOps_cons, exOp_eq, exCall_eq, nx_eq, cur_eq, evL, stepQ, ev, lk, putT, erA, inB, opt, bnd, req, ret, onQ, ap, binG, binF, intF, bltQ, bltV, lenF, slF, bd, bds, and_true, true_and, and_self, or_false, Nat.reduceEqDiff, Nat.reduceLT, Nat.reduceAdd, Int.reduceLE, Int.reduceToNat, Nat.le_refl, if_true, if_false, List.getElem?_cons_zero, List.getElem?_cons_succ, Option.bind_some, Option.map_some, tt_9, tt_35]
              refine CallK.pure _ _ c0 call17 (by simp only [AV.nmIn, bnd, req, ret, onQ, AV.isTup, isTupL, true_and, and_self, Bool.false_eq_true, List.append_nil, vw.vwL, vw, AV.free, Bool.or_self]; all_goals (and_intros <;> first | exact AV.subL_refl _ | omega | (simp [AV.sub]; done) | rfl | (simp [AV.subL_refl]; done) | (simp; exact AV.subL_refl _))) ?_
              simp only [exOps_nil, exOps_cons, exOp_eq, nx_eq, cur_eq, stepQ, ev, lk, putT, erA, inB, opt, bnd, req, ret, onQ, ap, pickF, true_and, and_self, Nat.reduceEqDiff, Nat.reduceLT, Nat.reduceAdd, if_true, if_false]
              refine hK _ ?_
              clear hK K
              refine W.ret ?_
              simp only [fin_ret, finB, resQ, resV, leL, AV.nmIn, entsIn, lk, opt, bnd, req, ret, onQ, AV.isTup, and_self, Nat.reduceEqDiff, if_true, if_false]
              done
            · have hll : (encL T2).length < 1000 := by rw [encL_len]; omega
              have cb := all_X (encL T2) (encL_ne ht2) hll 64 (by omega)
              simp only [tabS_ne 3 ht2, tbX] at cb ⊢
              refine W.seqK fun K hK => W.regionK tt_ok ?_
              simp only [exOps_cons, exOp_eq, exCall_eq, nx_eq, cur_eq, evL, stepQ, ev, lk, putT, erA, inB, opt, ret, onQ, ap, true_and, Nat.reduceEqDiff, Nat.reduceLT, Nat.reduceAdd, if_true, if_false, Option.bind_some, Option.map_some]
              refine CallK.with [(0, .obj 53 (.agg [.mp 1, .mp 2, .sl 3 1 0 (encL T2).length])), (1, .mset (.strs (nmL (encL T2)))), (2, .mset (.strs (tmL (encL T2)))), (3, .vec 9 (.strs (alL (encL T2))))] [(64, .vec 9 (.strs (alL (encL T2)))), (0, .obj 53 (.agg [.mp 1, .mp 2, .sl 3 1 0 (encL T2).length])), (1, .mset (.strs (nmL (encL T2)))), (2, .mset (.strs (tmL (encL T2)))), (3, .vec 9 (.strs (alL (encL T2))))] _ _ cb call14 (by simp only [AV.nmIn, bnd, req, ret, onQ, AV.isTup, isTupL, and_true, true_and, and_self, Bool.false_eq_true, List.append_nil, vw.vwL, vw, AV.free, Bool.or_self]; all_goals (and_intros <;> first | exact AV.subL_refl _ | omega | (simp [AV.sub, entsFree, Ent.free, Row.free]; done) | rfl | (simp [AV.subL_refl]; done))) (by simp [leL, lk]) (by intro n hn; first | (left; revert hn; simp [Nm, lk]; done) | (right; revert hn; simp only [Nm, lk]; split <;> simp <;> omega) | (by_cases h1 : Nm [(0, .obj 53 (.agg [.mp 1, .mp 2, .sl 3 1 0 (encL T2).length])), (1, .mset (.strs (nmL (encL T2)))), (2, .mset (.strs (tmL (encL T2)))), (3, .vec 9 (.strs (alL (encL T2))))] n; exact .inl h1; right; revert hn h1; simp only [Nm, lk]; split <;> (try split) <;> (try split) <;> (try split) <;> (try simp) <;> (try omega))) (by simp [entsIn, Ent.nmIn, Row.nmIn, AV.nmIn, AV.nmInL, Nm, lk]) ?_
              simp only [callDel, exOps_nil, exOps_cons, exOp_eq, nx_eq, cur_eq, stepQ, ev, lk, putT, erA, inB, opt, ret, onQ, ap, up, er, true_and, Nat.reduceEqDiff, Nat.reduceLT, Nat.reduceAdd, if_true, if_false, reduceCtorEq, List.nil_append, List.cons_append, List.map_cons, List.map_nil, List.reverse_cons, List.reverse_nil]
              refine hK _ ?_
              clear hK K
              have hz : (0 : Int) ≤ (encL T2).length := by omega
              refine W.seqK fun K hK => W.regionK tt_ok ?_
              simp only [↓gTT, ↓nTT, decide_true, exOps_cons, exOp_eq, exCall_eq, nx_eq, cur_eq, evL, stepQ, ev, lk, putT, erA, inB, opt, bnd, req, ret, onQ, ap, binG, binF, intF, bltQ, bltV, lenF, slF, bd, bds, and_true, true_and, and_self, or_false, Nat.reduceEqDiff, Nat.reduceLT, Nat.reduceAdd, Int.reduceLE, Int.reduceToNat, Nat.sub_self, Nat.zero_le, Nat.add_zero, if_true, if_false, List.getElem?_cons_zero, List.getElem?_cons_succ, Option.bind_some, Option.map_some, tt_9, tt_35, hz]
              refine CallK.pure _ _ c0 call17 (by simp only [Bool.or_false, AV.nmIn, lk, opt, bnd, req, ret, onQ, AV.isTup, isTupL, Ent.row, and_true, true_and, and_self, Nat.reduceEqDiff, Nat.zero_le, Nat.add_zero, if_true, if_false, reduceCtorEq, forall_const, List.append_nil, vw.vwL, vw, viewR, AV.free, Ent.row, Bool.or_self]; all_goals (and_intros <;> first | exact AV.subL_refl _ | omega | (simp [AV.sub]; done) | rfl | (simp [AV.subL_refl]; done) | (simp; exact AV.subL_refl _))) ?_
              simp only [exOps_nil, exOps_cons, exOp_eq, nx_eq, cur_eq, stepQ, ev, lk, putT, erA, inB, opt, bnd, req, ret, onQ, ap, pickF, true_and, and_self, Nat.reduceEqDiff, Nat.reduceLT, Nat.reduceAdd, if_true, if_false]
              refine hK _ ?_
              clear hK K
              refine W.ret ?_
              simp only [fin_ret, finB, resQ, resV, leL, AV.nmIn, entsIn, lk, opt, bnd, req, ret, onQ, AV.isTup, and_self, Nat.reduceEqDiff, if_true, if_false]
              done
        · have hll1 : (encL T1).length < 1000 := by rw [encL_len]; omega
          have ca := all_X (encL T1) (encL_ne ht1) hll1 64 (by omega)
          simp only [tabS_ne 3 ht1, tbX] at ca ⊢
          refine W.seqK fun K hK => W.regionK tt_ok ?_
          simp only [exOps_cons, exOp_eq, exCall_eq, nx_eq, cur_eq, evL, stepQ, ev, lk, putT, erA, inB, opt, ret, onQ, ap, true_and, Nat.reduceEqDiff, Nat.reduceLT, Nat.reduceAdd, if_true, if_false, reduceCtorEq, Option.bind_some, Option.map_some]
          refine CallK.with [(0, .obj 53 (.agg [.mp 1, .mp 2, .sl 3 1 0 (encL T1).length])), (1, .mset (.strs (nmL (encL T1)))), (2, .mset (.strs (tmL (encL T1)))), (3, .vec 9 (.strs (alL (encL T1))))] [(64, .vec 9 (.strs (alL (encL T1)))), (0, .obj 53 (.agg [.mp 1, .mp 2, .sl 3 1 0 (encL T1).length])), (1, .mset (.strs (nmL (encL T1)))), (2, .mset (.strs (tmL (encL T1)))), (3, .vec 9 (.strs (alL (encL T1))))] _ _ ca call14 (by simp only [AV.nmIn, bnd, req, ret, onQ, AV.isTup, isTupL, and_true, true_and, and_self, Bool.false_eq_true, List.append_nil, vw.vwL, vw, AV.free, Bool.or_self]; all_goals (and_intros <;> first | exact AV.subL_refl _ | omega | (simp [AV.sub, entsFree, Ent.free, Row.free]; done) | rfl | (simp [AV.subL_refl]; done))) (by simp [leL, lk]) (by intro n hn; first | (left; revert hn; simp [Nm, lk]; done) | (right; revert hn; simp only [Nm, lk]; split <;> simp <;> omega) | (by_cases h1 : Nm [(0, .obj 53 (.agg [.mp 1, .mp 2, .sl 3 1 0 (encL T1).length])), (1, .mset (.strs (nmL (encL T1)))), (2, .mset (.strs (tmL (encL T1)))), (3, .vec 9 (.strs (alL (encL T1))))] n; exact .inl h1; right; revert hn h1; simp only [Nm, lk]; split <;> (try split) <;> (try split) <;> (try split) <;> (try simp) <;> (try omega))) (by simp [entsIn, Ent.nmIn, Row.nmIn, AV.nmIn, AV.nmInL, Nm, lk]) ?_
          simp only [callDel, exOps_nil, exOps_cons, exOp_eq, nx_eq, cur_eq, stepQ, ev, lk, putT, erA, inB, opt, ret, onQ, ap, up, er, true_and, Nat.reduceEqDiff, Nat.reduceLT, Nat.reduceAdd, if_true, if_false, reduceCtorEq, List.nil_append, List.cons_append, List.map_cons, List.map_nil, List.reverse_cons, List.reverse_nil]
          refine hK _ ?_
          clear hK K
          refine W.swap 4 64 (by simp [Nm, lk]) ?_
          simp [St.swap, tmMap, enMap, swp, AV.map, AV.mapL, Ent.map, Row.map]
          refine W.seqK fun Km hKm => ?_
          refine W.seqK fun K hK => W.regionK tt_ok ?_
          simp only [exOps_nil, exOps_cons, exOp_eq, exCall_eq, nx_eq, cur_eq, evL, stepQ, ev, ofV, lk, putT, erA, inB, opt, bnd, req, ret, onQ, ap, bltQ, bltV, lenF, true_and, and_self, or_false, Nat.reduceEqDiff, Nat.reduceLT, Nat.reduceAdd, if_true, if_false, reduceCtorEq, List.getElem?_cons_zero, Option.bind_some, Option.map_some, tt_22, List.length_map]
          refine hK _ ?_
          clear hK K
          refine W.blockK ?_
          refine W.loopS (fun k : Nat => k ≤ more.length) (fun k => ⟨[(1, .lst 6 (more.map acV)), (5, .ptr 0 0 0 1), (8, .sl 4 1 0 (encL T1).length), (35, .lst 6 (more.map acV)), (36, .int .i64 (more.length : Int)), (37, .int .i64 (k : Int))], ext4 T1 (tk T1 more k), 32, 60⟩) (fun k => more.length - k) 0 (by simp) (by simp [ext4, tabS, *, tk_zero, tbX, wk, leL, lk, nmT, nmE, nmH, AV.nmIn, AV.nmInL, Ent.nmIn, Row.nmIn]) ?_
          intro k hk K3 hK3
          by_cases hlt : k < more.length
          · have hok0 := hok1
            have hl0 : (T1 : Tms').length ≤ 60 := by first | omega | simp
            have hAa := hA'
            have hml : (more.map acV).length = more.length := List.length_map ..
            generalize hT0 : (T1 : Tms') = T0 at *
            generalize more = acts at *
            have c := made_fn (tk T0 acts k) (tk_ok hok0 acts k) (by have := tk_len T0 acts k; omega) acts[k] (hAa _ (List.getElem_mem ..))
            rw [← tk_succ T0 acts k hlt] at c
            have he := ac_get acts k hlt
            have l1 : (k : Int) < (acts.length : Nat) := by omega
            have hwk : IntKind.i64.wrap ((k : Int) + 1) = ((k + 1 : Nat) : Int) := wrap_up k (by omega)
            have hup := tk_up (T := T0) (l := acts) hlt
            simp only [acV] at c
            generalize acts[k] = x at *
            generalize mdN (tk T0 acts k) x = r at *
            by_cases hs1 : tk T0 acts (k + 1) = []
            · have hs0 : tk T0 acts k = [] := Classical.byContradiction fun q => hup q hs1
              rw [hs0, hs1, tabS_nil, tabS_nil] at c
              simp only [ext4, hs0, tabS_nil, tabE] at c ⊢
              refine W.seqK fun K hK => W.regionK tt_ok ?_
              simp only [decide_true, exOps_nil, exOps_cons, exOp_eq, nx_eq, cur_eq, stepQ, ev, lk, putT, erA, inB, opt, bnd, req, ret, onQ, ap, binG, binF, intF, true_and, and_self, Nat.reduceEqDiff, Nat.reduceLT, Nat.reduceAdd, if_true, if_false, l1]
              refine hK _ ?_
              clear hK K
              refine W.seqK fun K hK => W.cond (b := true) (by simp only [ev, lk, Nat.reduceEqDiff, if_true, if_false]) (fun _ => W.skip ?_) (fun h => absurd h (by simp))
              rw [thn_normal]
              refine hK _ ?_
              clear hK K
              refine W.seqK fun K hK => W.blockK ?_
              refine W.seqK fun K hK => W.regionK tt_ok ?_
              simp only [exOps_nil, exOps_cons, exOp_eq, nx_eq, cur_eq, stepQ, ev, lk, putT, erA, inB, opt, bnd, req, ret, onQ, ap, up, er, AV.isTup, AV.isAgg, Kd.elem, ixA, asI, ldP, ldC, ldS, Kd.agg, comps, szL, csize, takeI, takeC, dropC, stP, stE, stC, stS, and_true, true_and, and_self, Nat.reduceEqDiff, Nat.reduceLT, Nat.reduceLeDiff, Nat.reduceAdd, Nat.reduceSub, Nat.sub_self, Int.toNat_natCast, Nat.le_refl, Nat.add_zero, Nat.zero_add, if_true, if_false, reduceCtorEq, Option.bind_some, Option.map_some, List.append_nil, List.nil_append, tt_22, tt_30, he]
              refine ⟨by rw [hml]; omega, ?_⟩
              refine hK _ ?_
              clear hK K
              refine W.region tt_ok ?_
              simp only [exOps_cons, exOp_eq, exCall_eq, nx_eq, cur_eq, evL, stepQ, ev, lk, putT, erA, inB, opt, bnd, req, ret, onQ, ap, ldP, ldE, ldC, ldS, Kd.agg, comps, csize, takeI, takeC, dropC, true_and, and_self, Nat.reduceEqDiff, Nat.reduceLT, Nat.reduceLeDiff, Nat.reduceAdd, Nat.reduceSub, Nat.sub_self, Nat.le_refl, if_true, if_false, reduceCtorEq, Option.bind_some, Option.map_some, tt_30]
              refine CallK.with [(0, .obj 53 (.agg [.mp 1, .mp 2, .nils])), (1, .mset (.strs [])), (2, .mset (.strs []))] [(0, .obj 53 (.agg [.mp 1, .mp 2, .nils])), (1, .mset (.strs [])), (2, .mset (.strs []))] _ _ c call13 (by simp only [AV.nmIn, bnd, req, ret, onQ, AV.isTup, isTupL, and_true, true_and, and_self, Bool.false_eq_true, List.append_nil, vw.vwL, vw, AV.free, AV.freeL, Bool.or_self]; all_goals (and_intros <;> first | exact AV.subL_refl _ | omega | (simp [AV.sub, entsFree, Ent.free]; done) | rfl | (simp [AV.subL_refl]; done))) (by simp [leL, lk]) (by intro n hn; first | (left; revert hn; simp [Nm, lk]; done) | (right; revert hn; simp only [Nm, lk]; split <;> simp <;> omega) | (by_cases h1 : Nm [(0, .obj 53 (.agg [.mp 1, .mp 2, .nils])), (1, .mset (.strs [])), (2, .mset (.strs []))] n; exact .inl h1; right; revert hn h1; simp only [Nm, lk]; split <;> (try split) <;> (try split) <;> (try split) <;> (try simp) <;> (try omega))) (by simp [entsIn, Ent.nmIn, AV.nmIn, AV.nmInL, Nm, lk]) ?_
              simp only [callDel, exOps_nil, nx_eq, putT, erA, ap, up, er, thn_normal, inb_normal, Nat.reduceEqDiff, Nat.reduceAdd, if_true, if_false, reduceCtorEq, List.nil_append, List.cons_append, List.map_cons, List.map_nil, List.reverse_cons, List.reverse_nil]
              refine hK _ ?_
              refine W.region tt_ok ?_
              simp only [exOps_nil, exOps_cons, exOp_eq, nx_eq, cur_eq, stepQ, ev, ofV, lk, putT, erA, inB, opt, bnd, req, ret, onQ, ap, binG, binF, intF, thn_normal, true_and, and_self, Nat.reduceEqDiff, Nat.reduceLT, Nat.reduceAdd, if_true, if_false, hwk]
              refine hK3 _ (k + 1) 3 144 (by omega) (by omega) (by simp [Nm, lk]) ?_
              simp [ext4, tabS, hs1, tabE, St.swap, tmMap, enMap, swp, AV.map, AV.mapL, Ent.map, Row.map, wk, leL, lk, nmT, nmE, nmH, AV.nmIn, AV.nmInL, Ent.nmIn, Row.nmIn]
            · by_cases hs0 : tk T0 acts k = []
              · rw [hs0, tabS_nil, tabS_ne 992 hs1] at c
                have c := mv0 992 144 (by omega) (by omega) (by omega) rfl c
                simp only [ext4, hs0, tabS_nil, tabE, tbX] at c ⊢
                refine W.seqK fun K hK => W.regionK tt_ok ?_
                simp only [decide_true, exOps_nil, exOps_cons, exOp_eq, nx_eq, cur_eq, stepQ, ev, lk, putT, erA, inB, opt, bnd, req, ret, onQ, ap, binG, binF, intF, true_and, and_self, Nat.reduceEqDiff, Nat.reduceLT, Nat.reduceAdd, if_true, if_false, l1]
                refine hK _ ?_
                clear hK K
                refine W.seqK fun K hK => W.cond (b := true) (by simp only [ev, lk, Nat.reduceEqDiff, if_true, if_false]) (fun _ => W.skip ?_) (fun h => absurd h (by simp))
                rw [thn_normal]
                refine hK _ ?_
                clear hK K
                refine W.seqK fun K hK => W.blockK ?_
                refine W.seqK fun K hK => W.regionK tt_ok ?_
                simp only [exOps_nil, exOps_cons, exOp_eq, nx_eq, cur_eq, stepQ, ev, lk, putT, erA, inB, opt, bnd, req, ret, onQ, ap, up, er, AV.isTup, AV.isAgg, Kd.elem, ixA, asI, ldP, ldC, ldS, Kd.agg, comps, szL, csize, takeI, takeC, dropC, stP, stE, stC, stS, and_true, true_and, and_self, Nat.reduceEqDiff, Nat.reduceLT, Nat.reduceLeDiff, Nat.reduceAdd, Nat.reduceSub, Nat.sub_self, Int.toNat_natCast, Nat.le_refl, Nat.add_zero, Nat.zero_add, if_true, if_false, reduceCtorEq, Option.bind_some, Option.map_some, List.append_nil, List.nil_append, tt_22, tt_30, he]
                refine ⟨by rw [hml]; omega, ?_⟩
                refine hK _ ?_
                clear hK K
                refine W.region tt_ok ?_
                simp only [exOps_cons, exOp_eq, exCall_eq, nx_eq, cur_eq, evL, stepQ, ev, lk, putT, erA, inB, opt, bnd, req, ret, onQ, ap, ldP, ldE, ldC, ldS, Kd.agg, comps, csize, takeI, takeC, dropC, true_and, and_self, Nat.reduceEqDiff, Nat.reduceLT, Nat.reduceLeDiff, Nat.reduceAdd, Nat.reduceSub, Nat.sub_self, Nat.le_refl, if_true, if_false, reduceCtorEq, Option.bind_some, Option.map_some, tt_30]
                refine CallK.with [(0, .obj 53 (.agg [.mp 1, .mp 2, .nils])), (1, .mset (.strs [])), (2, .mset (.strs []))] [(0, .obj 53 (.agg [.mp 1, .mp 2, .sl 144 1 0 (encL (tk T0 acts (k + 1))).length])), (1, .mset (.strs (nmL (encL (tk T0 acts (k + 1)))))), (2, .mset (.strs (tmL (encL (tk T0 acts (k + 1)))))), (144, .vec 9 (.strs (alL (encL (tk T0 acts (k + 1))))))] _ _ c call13 (by simp only [AV.nmIn, bnd, req, ret, onQ, AV.isTup, isTupL, and_true, true_and, and_self, Bool.false_eq_true, List.append_nil, vw.vwL, vw, AV.free, AV.freeL, Bool.or_self]; all_goals (and_intros <;> first | exact AV.subL_refl _ | omega | (simp [AV.sub, entsFree, Ent.free, Row.free]; done) | rfl | (simp [AV.subL_refl]; done))) (by simp [leL, lk]) (by intro n hn; first | (left; revert hn; simp [Nm, lk]; done) | (right; revert hn; simp only [Nm, lk]; split <;> simp <;> omega) | (by_cases h1 : Nm [(0, .obj 53 (.agg [.mp 1, .mp 2, .nils])), (1, .mset (.strs [])), (2, .mset (.strs []))] n; exact .inl h1; right; revert hn h1; simp only [Nm, lk]; split <;> (try split) <;> (try split) <;> (try split) <;> (try simp) <;> (try omega))) (by simp [entsIn, Ent.nmIn, AV.nmIn, AV.nmInL, Nm, lk]) ?_
                simp only [callDel, exOps_nil, nx_eq, putT, erA, ap, up, er, thn_normal, inb_normal, Nat.reduceEqDiff, Nat.reduceAdd, if_true, if_false, reduceCtorEq, List.nil_append, List.cons_append, List.map_cons, List.map_nil, List.reverse_cons, List.reverse_nil]
                refine hK _ ?_
                refine W.region tt_ok ?_
                simp only [exOps_nil, exOps_cons, exOp_eq, nx_eq, cur_eq, stepQ, ev, ofV, lk, putT, erA, inB, opt, bnd, req, ret, onQ, ap, binG, binF, intF, thn_normal, true_and, and_self, Nat.reduceEqDiff, Nat.reduceLT, Nat.reduceAdd, if_true, if_false, hwk]
                refine hK3 _ (k + 1) 3 144 (by omega) (by omega) (by simp [Nm, lk]) ?_
                simp [ext4, tabS, hs1, tbX, St.swap, tmMap, enMap, swp, AV.map, AV.mapL, Ent.map, Row.map, wk, leL, lk, nmT, nmE, nmH, AV.nmIn, AV.nmInL, Ent.nmIn, Row.nmIn]
              · rw [tabS_ne 3 hs0, tabS_ne 992 hs1] at c
                have c := mv1 992 144 (by omega) (by omega) (by omega) rfl c
                simp only [ext4, tabS_ne 3 hs0, tbX] at c ⊢
                refine W.seqK fun K hK => W.regionK tt_ok ?_
                simp only [decide_true, exOps_nil, exOps_cons, exOp_eq, nx_eq, cur_eq, stepQ, ev, lk, putT, erA, inB, opt, bnd, req, ret, onQ, ap, binG, binF, intF, true_and, and_self, Nat.reduceEqDiff, Nat.reduceLT, Nat.reduceAdd, if_true, if_false, l1]
                refine hK _ ?_
                clear hK K
                refine W.seqK fun K hK => W.cond (b := true) (by simp only [ev, lk, Nat.reduceEqDiff, if_true, if_false]) (fun _ => W.skip ?_) (fun h => absurd h (by simp))
                rw [thn_normal]
                refine hK _ ?_
                clear hK K
                refine W.seqK fun K hK => W.blockK ?_
                refine W.seqK fun K hK => W.regionK tt_ok ?_
                simp only [exOps_nil, exOps_cons, exOp_eq, nx_eq, cur_eq, stepQ, ev, lk, putT, erA, inB, opt, bnd, req, ret, onQ, ap, up, er, AV.isTup, AV.isAgg, Kd.elem, ixA, asI, ldP, ldC, ldS, Kd.agg, comps, szL, csize, takeI, takeC, dropC, stP, stE, stC, stS, and_true, true_and, and_self, Nat.reduceEqDiff, Nat.reduceLT, Nat.reduceLeDiff, Nat.reduceAdd, Nat.reduceSub, Nat.sub_self, Int.toNat_natCast, Nat.le_refl, Nat.add_zero, Nat.zero_add, if_true, if_false, reduceCtorEq, Option.bind_some, Option.map_some, List.append_nil, List.nil_append, tt_22, tt_30, he]
                refine ⟨by rw [hml]; omega, ?_⟩
                refine hK _ ?_
                clear hK K
                refine W.region tt_ok ?_
                simp only [exOps_cons, exOp_eq, exCall_eq, nx_eq, cur_eq, evL, stepQ, ev, lk, putT, erA, inB, opt, bnd, req, ret, onQ, ap, ldP, ldE, ldC, ldS, Kd.agg, comps, csize, takeI, takeC, dropC, true_and, and_self, Nat.reduceEqDiff, Nat.reduceLT, Nat.reduceLeDiff, Nat.reduceAdd, Nat.reduceSub, Nat.sub_self, Nat.le_refl, if_true, if_false, reduceCtorEq, Option.bind_some, Option.map_some, tt_30]
                refine CallK.with [(0, .obj 53 (.agg [.mp 1, .mp 2, .sl 3 1 0 (encL (tk T0 acts k)).length])), (1, .mset (.strs (nmL (encL (tk T0 acts k))))), (2, .mset (.strs (tmL (encL (tk T0 acts k))))), (3, .vec 9 (.strs (alL (encL (tk T0 acts k)))))] [(0, .obj 53 (.agg [.mp 1, .mp 2, .sl 144 1 0 (encL (tk T0 acts (k + 1))).length])), (1, .mset (.strs (nmL (encL (tk T0 acts (k + 1)))))), (2, .mset (.strs (tmL (encL (tk T0 acts (k + 1)))))), (144, .vec 9 (.strs (alL (encL (tk T0 acts (k + 1))))))] _ _ c call13 (by simp only [AV.nmIn, bnd, req, ret, onQ, AV.isTup, isTupL, and_true, true_and, and_self, Bool.false_eq_true, List.append_nil, vw.vwL, vw, AV.free, AV.freeL, Bool.or_self]; all_goals (and_intros <;> first | exact AV.subL_refl _ | omega | (simp [AV.sub, entsFree, Ent.free, Row.free]; done) | rfl | (simp [AV.subL_refl]; done))) (by simp [leL, lk]) (by intro n hn; first | (left; revert hn; simp [Nm, lk]; done) | (right; revert hn; simp only [Nm, lk]; split <;> simp <;> omega) | (by_cases h1 : Nm [(0, .obj 53 (.agg [.mp 1, .mp 2, .sl 3 1 0 (encL (tk T0 acts k)).length])), (1, .mset (.strs (nmL (encL (tk T0 acts k))))), (2, .mset (.strs (tmL (encL (tk T0 acts k))))), (3, .vec 9 (.strs (alL (encL (tk T0 acts k)))))] n; exact .inl h1; right; revert hn h1; simp only [Nm, lk]; split <;> (try split) <;> (try split) <;> (try split) <;> (try simp) <;> (try omega))) (by simp [entsIn, Ent.nmIn, Row.nmIn, AV.nmIn, AV.nmInL, Nm, lk]) ?_
                simp only [callDel, exOps_nil, nx_eq, putT, erA, ap, up, er, thn_normal, inb_normal, Nat.reduceEqDiff, Nat.reduceAdd, if_true, if_false, reduceCtorEq, List.nil_append, List.cons_append, List.map_cons, List.map_nil, List.reverse_cons, List.reverse_nil]
                refine hK _ ?_
                refine W.region tt_ok ?_
                simp only [exOps_nil, exOps_cons, exOp_eq, nx_eq, cur_eq, stepQ, ev, ofV, lk, putT, erA, inB, opt, bnd, req, ret, onQ, ap, binG, binF, intF, thn_normal, true_and, and_self, Nat.reduceEqDiff, Nat.reduceLT, Nat.reduceAdd, if_true, if_false, hwk]
                refine hK3 _ (k + 1) 3 144 (by omega) (by omega) (by simp [Nm, lk]) ?_
                simp [ext4, tabS, hs1, tbX, St.swap, tmMap, enMap, swp, AV.map, AV.mapL, Ent.map, Row.map, wk, leL, lk, nmT, nmE, nmH, AV.nmIn, AV.nmInL, Ent.nmIn, Row.nmIn]
          · obtain rfl : k = more.length := by omega
            have l1 : ¬ ((more.length : Nat) : Int) < (more.length : Nat) := by omega
            refine W.seqK fun K hK => W.regionK tt_ok ?_
            simp only [decide_false, exOps_nil, exOps_cons, exOp_eq, nx_eq, cur_eq, stepQ, ev, lk, putT, erA, inB, opt, bnd, req, ret, onQ, ap, binG, binF, intF, true_and, and_self, Nat.reduceEqDiff, Nat.reduceLT, Nat.reduceAdd, if_true, if_false, l1]
            refine hK _ ?_
            clear hK K
            refine W.seqK fun K hK => W.cond (b := false) (by simp only [ev, lk, Nat.reduceEqDiff, if_true, if_false]) (fun h => absurd h (by simp)) (fun _ => W.exit ?_)
            simp only [thn_normal, thn_exit, inb_exit, if_true]
            clear hK K
            refine hKm _ ?_
            have hl2 := tk_len T1 more more.length
            have hpr := tk_pre T1 more more.length
            generalize htt : tk T1 more more.length = T2 at *
            have ht2 := pre_ne hpr ht1
            have hll2 : (encL T2).length < 1000 := by rw [encL_len]; omega
            have hle : (encL T1).length ≤ (encL T2).length := by rw [encL_len, encL_len]; exact hpr.length_le
            have hgi : ((encL T1).length : Int) ≤ (encL T2).length := by omega
            have cb := all_X (encL T2) (encL_ne ht2) hll2 64 (by omega)
            have c4 : FnR Try.prog G 17 [.lstS (List.take (encL T1).length (List.drop 0 (alL (encL T2)))), .lstS (List.take (encL T1).length (List.drop 0 (alL (encL T1))))] [] (.bool true) [] := by
              rw [List.drop_zero, List.drop_zero, alL_take _ _ hle, alL_take _ _ (Nat.le_refl _)]
              exact c3
            simp only [ext4, tabS_ne 3 ht2, tbX] at cb ⊢
            refine W.seqK fun K hK => W.regionK tt_ok ?_
            simp only [exOps_cons, exOp_eq, exCall_eq, nx_eq, cur_eq, evL, stepQ, ev, lk, putT, erA, inB, opt, ret, onQ, ap, true_and, Nat.reduceEqDiff, Nat.reduceLT, Nat.reduceAdd, if_true, if_false, Option.bind_some, Option.map_some]
            refine CallK.with [(0, .obj 53 (.agg [.mp 1, .mp 2, .sl 3 1 0 (encL T2).length])), (1, .mset (.strs (nmL (encL T2)))), (2, .mset (.strs (tmL (encL T2)))), (3, .vec 9 (.strs (alL (encL T2))))] [(64, .vec 9 (.strs (alL (encL T2)))), (0, .obj 53 (.agg [.mp 1, .mp 2, .sl 3 1 0 (encL T2).length])), (1, .mset (.strs (nmL (encL T2)))), (2, .mset (.strs (tmL (encL T2)))), (3, .vec 9 (.strs (alL (encL T2))))] _ _ cb call14 (by simp only [AV.nmIn, bnd, req, ret, onQ, AV.isTup, isTupL, and_true, true_and, and_self, Bool.false_eq_true, List.append_nil, vw.vwL, vw, AV.free, Bool.or_self]; all_goals (and_intros <;> first | exact AV.subL_refl _ | omega | (simp [AV.sub, entsFree, Ent.free, Row.free]; done) | rfl | (simp [AV.subL_refl]; done))) (by simp [leL, lk]) (by intro n hn; first | (left; revert hn; simp [Nm, lk]; done) | (right; revert hn; simp only [Nm, lk]; split <;> simp <;> omega) | (by_cases h1 : Nm [(0, .obj 53 (.agg [.mp 1, .mp 2, .sl 3 1 0 (encL T2).length])), (1, .mset (.strs (nmL (encL T2)))), (2, .mset (.strs (tmL (encL T2)))), (3, .vec 9 (.strs (alL (encL T2))))] n; exact .inl h1; right; revert hn h1; simp only [Nm, lk]; split <;> (try split) <;> (try split) <;> (try split) <;> (try simp) <;> (try omega))) (by simp [entsIn, Ent.nmIn, Row.nmIn, AV.nmIn, AV.nmInL, Nm, lk]) ?_
            simp only [callDel, exOps_nil, exOps_cons, exOp_eq, nx_eq, cur_eq, stepQ, ev, lk, putT, erA, inB, opt, ret, onQ, ap, up, er, true_and, Nat.reduceEqDiff, Nat.reduceLT, Nat.reduceAdd, if_true, if_false, reduceCtorEq, List.nil_append, List.cons_append, List.map_cons, List.map_nil, List.reverse_cons, List.reverse_nil]
            refine hK _ ?_
            clear hK K
            refine W.seqK fun K hK => W.regionK tt_ok ?_
            simp only [↓gTT, ↓nTT, decide_true, exOps_cons, exOp_eq, exCall_eq, nx_eq, cur_eq, evL, stepQ, ev, lk, putT, erA, inB, opt, bnd, req, ret, onQ, ap, binG, binF, intF, bltQ, bltV, lenF, slF, bd, bds, and_true, true_and, and_self, or_false, Nat.reduceEqDiff, Nat.reduceLT, Nat.reduceAdd, Int.toNat_natCast, Nat.add_zero, if_true, if_false, List.getElem?_cons_zero, List.getElem?_cons_succ, Option.bind_some, Option.map_some, tt_9, tt_35, hgi, Int.toNat_natCast]
            refine ⟨by omega, ?_⟩
            have hv2 : (encL T1).length ≤ (alL (encL T2)).length := by rw [alL_len]; exact hle
            have hv1 : (encL T1).length ≤ (alL (encL T1)).length := by rw [alL_len]; exact Nat.le_refl _
            refine CallK.pure _ _ c4 call17 (by simp only [Bool.or_false, lk, opt, bnd, req, ret, onQ, AV.isTup, isTupL, Ent.row, and_true, true_and, and_self, Nat.reduceEqDiff, Nat.zero_add, if_true, if_false, reduceCtorEq, forall_const, List.append_nil, vw.vwL, vw, viewR, AV.free, Ent.row, Bool.or_self]; all_goals (and_intros <;> first | exact AV.subL_refl _ | omega | (simp [AV.sub]; done) | rfl | (simp [AV.subL_refl]; done) | (simp; exact AV.subL_refl _))) ?_
            simp only [exOps_nil, exOps_cons, exOp_eq, nx_eq, cur_eq, stepQ, ev, lk, putT, erA, inB, opt, bnd, req, ret, onQ, ap, pickF, true_and, and_self, Nat.reduceEqDiff, Nat.reduceLT, Nat.reduceAdd, if_true, if_false]
            refine hK _ ?_
            clear hK K
            refine W.ret ?_
            simp only [fin_ret, finB, resQ, resV, leL, AV.nmIn, entsIn, lk, opt, bnd, req, ret, onQ, AV.isTup, and_self, Nat.reduceEqDiff, if_true, if_false]
            done
end Go.Proofs.Ytjnhpklhdikcdaa
