/- The statement SkipActs: the walk. -/
import Derived.Test.YthnkhdenkagceaaSkb
import Derived.Test.YthnkhdenkagceaaSxW
-- TT 3 4 5 9 22 24 28 33 29 47 51 53
-- SIMP viewEL_its viewEL_acs nm_its nm_acs free_its beq_self_eq_true bne_self_eq_false
set_option linter.unusedVariables false
set_option linter.unusedSimpArgs false
namespace Go.Proofs.Ythnkhdenkagceaa
open Sx
set_option maxRecDepth 100000
set_option maxHeartbeats 1000000
theorem acts_fn (l : List Ac) (hkd : ∀ a ∈ l, 0 ≤ a.kd ∧ a.kd ≤ 255) : FnR Try.prog G 4 [.lst 4 (l.map acV)] [] (.bool true) [] := by
  have hml : (l.map acV).length = l.length := List.length_map ..
  refine FnR.of_walk (m := 171) (n0 := 0) tt_ok Try.func4 rfl rfl (by simp) (by simp [nmH]) ?_
  rw [show Try.f4.results.toList = [.tmp 2] from rfl]
  refine W.seqK fun K hK => W.regionK tt_ok ?_
  simp only [exOps_nil, exOps_cons, exOp_eq, nx_eq, cur_eq, stepQ, ev, ofV, parT, putT, erA, inB, opt, ret, onQ, ap, true_and, Nat.reduceLT, Nat.zero_add, if_false, reduceCtorEq]
  refine hK _ ?_
  clear hK K
  refine W.seqK fun Kz hKz => ?_
  by_cases h1 : (150 : Int) < l.length
  · refine W.seqK fun K hK => W.regionK tt_ok ?_
    simp only [↓gTF, ↓nTF, decide_true, exOps_nil, exOps_cons, exOp_eq, exCall_eq, nx_eq, cur_eq, evL, stepQ, ev, ofV, lk, putT, erA, inB, opt, bnd, req, ret, onQ, ap, binG, binF, intF, pickF, bltQ, bltV, lenF, true_and, and_self, or_false, Nat.reduceEqDiff, Nat.reduceLT, Nat.reduceAdd, if_true, if_false, reduceCtorEq, List.getElem?_cons_zero, List.getElem?_cons_succ, Option.bind_some, Option.map_some, tt_51, h1, hml]
    refine hK _ ?_
    clear hK K
    refine W.cond (b := true) (by simp only [ev, lk, Nat.reduceEqDiff, if_true, if_false, reduceCtorEq]) (fun _ => ?_) (fun h => absurd h (by simp))
    refine W.seqK fun K hK => W.regionK tt_ok ?_
    simp only [exOps_cons, exOp_eq, exCall_eq, evL, ev, inB, true_and, Nat.reduceLT]
    refine CallK.pure _ _ alive_fn call8 (by simp only [ret, onQ, isTupL, true_and, Bool.false_eq_true, List.append_nil, vw.vwL, AV.free]; all_goals (and_intros <;> first | exact AV.subL_refl _ | omega | (simp []; done) | rfl | (simp [AV.subL_refl]; done) | (simp; exact AV.subL_refl _))) ?_
    simp only [exOps_nil, exOps_cons, exOp_eq, nx_eq, cur_eq, stepQ, ev, lk, putT, erA, inB, opt, ret, onQ, ap, true_and, Nat.reduceEqDiff, Nat.reduceLT, Nat.reduceAdd, if_true, if_false, reduceCtorEq]
    refine hK _ ?_
    clear hK K
    refine W.ret ?_
    simp only [fin_ret, finB, resQ, resV, leL, AV.nmIn, entsIn, lk, opt, bnd, req, ret, onQ, AV.isTup, thn_ret, and_self, Nat.reduceEqDiff, if_true, if_false, reduceCtorEq]
  refine W.seqK fun K hK => W.regionK tt_ok ?_
  simp only [↓gFF, ↓nFF, decide_false, exOps_cons, exOp_eq, exCall_eq, nx_eq, cur_eq, evL, stepQ, ev, ofV, lk, putT, erA, inB, opt, bnd, req, ret, onQ, ap, binG, binF, intF, bltQ, bltV, lenF, and_true, true_and, and_self, or_false, Nat.reduceEqDiff, Nat.reduceLT, Nat.reduceAdd, if_true, if_false, reduceCtorEq, List.getElem?_cons_zero, List.getElem?_cons_succ, Option.bind_some, Option.map_some, tt_51, h1, hml]
  refine CallK.pure _ _ alive_fn call8 (by simp only [ret, onQ, isTupL, true_and, Bool.false_eq_true, List.append_nil, vw.vwL, AV.free]; all_goals (and_intros <;> first | exact AV.subL_refl _ | omega | (simp []; done) | rfl | (simp [AV.subL_refl]; done) | (simp; exact AV.subL_refl _))) ?_
  simp only [Bool.not_true, ↓gFF, ↓nFF, exOps_nil, exOps_cons, exOp_eq, nx_eq, cur_eq, stepQ, ev, lk, putT, erA, inB, opt, bnd, req, ret, onQ, ap, unF, pickF, and_true, true_and, and_self, Nat.reduceEqDiff, Nat.reduceLT, Nat.reduceAdd, if_true, if_false, reduceCtorEq, List.getElem?_cons_zero, List.getElem?_cons_succ, Option.bind_some]
  refine hK _ ?_
  clear hK K
  refine W.cond (b := false) (by simp only [ev, lk, Nat.reduceEqDiff, if_true, if_false, reduceCtorEq]) (fun h => absurd h (by simp)) (fun _ => W.skip ?_)
  simp only [thn_normal]
  refine hKz _ ?_
  refine W.seqK fun K hK => W.regionK tt_ok ?_
  simp only [exOps_nil, exOps_cons, exOp_eq, nx_eq, cur_eq, stepQ, ev, ofV, putT, erA, inB, opt, ret, onQ, ap, true_and, Nat.reduceEqDiff, Nat.reduceLT, Nat.reduceAdd, if_false, reduceCtorEq]
  refine hK _ ?_
  clear hK K
  refine W.seqK fun K hK => W.regionK tt_ok ?_
  simp only [exOps_nil, exOps_cons, exOp_eq, nx_eq, cur_eq, stepQ, ev, ofV, putT, erA, inB, opt, ret, onQ, ap, true_and, Nat.reduceEqDiff, Nat.reduceLT, Nat.reduceAdd, if_false, reduceCtorEq]
  refine hK _ ?_
  clear hK K
  refine W.seqK fun Kx hKx => ?_
  refine W.seqK fun K hK => W.regionK tt_ok ?_
  simp only [exOps_nil, exOps_cons, exOp_eq, exCall_eq, nx_eq, cur_eq, evL, stepQ, ev, ofV, lk, putT, erA, inB, opt, bnd, req, ret, onQ, ap, bltQ, bltV, lenF, true_and, and_self, or_false, Nat.reduceEqDiff, Nat.reduceLT, Nat.reduceAdd, if_true, if_false, reduceCtorEq, List.getElem?_cons_zero, Option.bind_some, Option.map_some, tt_51, hml]
  refine hK _ ?_
  clear hK K
  refine W.sub 4 (.lst 3 []) rfl (by simp [AV.sub]) ?_
  refine W.blockK ?_
  refine W.loopS (fun k : Nat => k ≤ l.length) (fun k => ⟨[(3, if acB l k then .nils else .sl 200 3 0 (acK l k).length), (4, .lst 3 ((acK l k).map itV)), (35, .lst 4 (l.map acV)), (36, .int .i64 (l.length : Nat)), (37, .int .i64 (k : Int))], if acB l k then [] else [(200, rw3 (acK l k))], 512, 171⟩) (fun k => l.length - k) 0 (by simp) (by simp [acK, acB, wk, leL, lk, nmT, nmE, nmH, AV.nmIn]) ?_
  intro k hk K3 hK3
  have hle := acK_le l k
  have hle' := acK_le l (k + 1)
  have huni := acK_uni l (k + 1)
  have hnl := acK_nil l k
  have hnl' := acK_nil l (k + 1)
  by_cases hlt : k < l.length
  · have c1 : (k : Int) < (l.length : Nat) := by omega
    have he := ac_get l k hlt
    have hg : l.getD k default = l[k] := by simp [List.getD_eq_getElem?_getD, hlt]
    have hs : acK l (k + 1) = acS (acK l k) l[k] := by rw [acK, hg]
    have hb : acB l (k + 1) = acN (acB l k) l[k] := by rw [acB, hg]
    have hkd := hkd l[k] (List.getElem_mem hlt)
    generalize hT1 : acK l (k + 1) = S1 at *
    generalize hT0 : acK l k = S at *
    generalize hB1 : acB l (k + 1) = b1 at *
    generalize hB0 : acB l k = b at *
    generalize l[k] = y at *
    have cf := few_fn y.x
    rw [itV] at cf
    have hy : acV y = .agg [.int .u8 y.kd, .str y.x.h, .int .i64 y.x.n, .str y.x.k] := rfl
    rw [hy] at he
    refine W.seqK fun K hK => W.regionK tt_ok ?_
    simp only [decide_true, exOps_nil, exOps_cons, exOp_eq, nx_eq, cur_eq, stepQ, ev, lk, putT, erA, inB, opt, bnd, req, ret, onQ, ap, binG, binF, intF, true_and, and_self, Nat.reduceEqDiff, Nat.reduceLT, Nat.reduceAdd, if_true, if_false, c1]
    refine hK _ ?_
    clear hK K
    refine W.seqK fun K hK => W.cond (b := true) (by simp only [ev, lk, Nat.reduceEqDiff, if_true, if_false]) (fun _ => W.skip ?_) (fun h => absurd h (by simp))
    rw [thn_normal]
    refine hK _ ?_
    clear hK K
    refine W.seqK fun K hK => W.blockK ?_
    refine W.seqK fun K hK => W.regionK tt_ok ?_
    simp only [exOps_nil, exOps_cons, exOp_eq, nx_eq, cur_eq, stepQ, ev, lk, putT, erA, inB, opt, bnd, req, ret, onQ, ap, up, er, AV.isTup, AV.isAgg, Kd.elem, ixA, asI, ldP, ldC, ldS, Kd.agg, comps, szL, csize, takeI, takeC, dropC, stP, stE, stC, stS, and_true, true_and, and_self, Nat.reduceEqDiff, Nat.reduceLT, Nat.reduceLeDiff, Nat.reduceAdd, Nat.reduceSub, Nat.sub_self, Int.toNat_natCast, Nat.le_refl, Nat.add_zero, Nat.zero_add, if_true, if_false, reduceCtorEq, Option.bind_some, Option.map_some, List.append_nil, List.nil_append, tt_51, tt_53, he, hml, Int.toNat_natCast]
    refine ⟨by omega, ?_⟩
    refine hK _ ?_
    clear hK K
    refine W.seqK fun Ky hKy => ?_
    refine W.seqK fun K hK => W.regionK tt_ok ?_
    simp only [exOps_cons, exOp_eq, exCall_eq, nx_eq, cur_eq, evL, stepQ, ev, lk, putT, erA, inB, opt, bnd, req, ret, onQ, ap, ldP, ldE, ldC, ldS, Kd.agg, comps, csize, takeI, takeC, dropC, fldF, true_and, and_self, Nat.reduceEqDiff, Nat.reduceLT, Nat.reduceLeDiff, Nat.reduceAdd, Nat.reduceSub, Nat.sub_self, Nat.le_refl, Nat.zero_add, if_true, if_false, reduceCtorEq, ne_eq, not_false_eq_true, List.getElem?_cons_zero, List.getElem?_cons_succ, Option.bind_some, Option.map_some, tt_24, tt_53]
    refine CallK.pure _ _ cf call9 (by simp only [AV.nmIn, bnd, req, ret, onQ, AV.isTup, isTupL, true_and, and_self, Bool.false_eq_true, List.append_nil, vw.vwL, vw, AV.free, Bool.or_self]; all_goals (and_intros <;> first | exact AV.subL_refl _ | omega | (simp [AV.sub]; done) | rfl | (simp [AV.subL_refl]; done) | (simp; exact AV.subL_refl _))) ?_
    simp only [exOps_nil, exOps_cons, exOp_eq, nx_eq, cur_eq, stepQ, ev, lk, putT, erA, inB, opt, bnd, req, ret, onQ, ap, unF, true_and, and_self, Nat.reduceEqDiff, Nat.reduceLT, Nat.reduceAdd, if_true, if_false]
    refine hK _ ?_
    clear hK K
    cases hfw : few y.x with
    | false =>
      refine W.cond (b := true) (by simp only [Bool.not_false, ev, lk, Nat.reduceEqDiff, if_true, if_false]) (fun _ => ?_) (fun h => absurd h (by simp))
      refine W.exit ?_
      simp only [Bool.not_false, thn_normal, thn_exit, inb_exit, if_true, if_false, reduceCtorEq]
      refine hK _ ?_
      have hs1 : S1 = S := by rw [hs, acS, hfw]; rfl
      have hb1 : b1 = b := by rw [hb, acN, hfw]; cases b <;> rfl
      rw [hs1] at hT1
      rw [hb1] at hB1
      refine W.region tt_ok ?_
      simp only [exOps_nil, exOps_cons, exOp_eq, nx_eq, cur_eq, stepQ, ev, ofV, lk, putT, erA, inB, opt, bnd, req, ret, onQ, ap, binG, binF, intF, thn_normal, true_and, and_self, Nat.reduceEqDiff, Nat.reduceLT, Nat.reduceAdd, if_true, if_false, wrap_up k (by omega)]
      refine hK3 _ (k + 1) 200 200 (by omega) (by omega) ⟨⟨by simp [Nm, lk], by simp [Nm, lk]⟩, by simp, by simp⟩ ?_
      cases b
      · simp [hT1, hB1, St.swap, tmMap, enMap, swp, AV.map, AV.mapL, Ent.map, Row.map, rw3, er, wk, leL, lk, nmT, nmE, nmH, AV.nmIn, Ent.nmIn, Row.nmIn, nm_its, ml_its]
      · simp [hT1, hB1, St.swap, tmMap, enMap, swp, AV.map, AV.mapL, Ent.map, er, wk, leL, lk, nmT, nmE, nmH, AV.nmIn]
    | true =>
      refine W.cond (b := false) (by simp only [Bool.not_true, ev, lk, Nat.reduceEqDiff, if_true, if_false]) (fun h => absurd h (by simp)) (fun _ => W.skip ?_)
      simp only [Bool.not_true, thn_normal]
      refine hKy _ ?_
      refine W.joinS ⟨[(3, if b1 then .nils else .sl 200 3 0 S1.length), (4, .lst 3 (S1.map itV)), (35, .lst 4 (l.map acV)), (36, .int .i64 (l.length : Nat)), (37, .int .i64 (k : Int))], if b1 then [] else [(200, rw3 S1)], 512, 171⟩ (fun Kj hKj => ?_) ?_
      · refine W.seqK fun K hK => W.regionK tt_ok ?_
        simp only [exOps_nil, exOps_cons, exOp_eq, nx_eq, cur_eq, stepQ, ev, ofV, lk, putT, erA, inB, opt, bnd, req, ret, onQ, ap, binG, binF, intF, ldP, ldE, ldC, ldS, Kd.agg, comps, csize, takeI, takeC, dropC, fldF, and_true, true_and, and_self, Nat.reduceEqDiff, Nat.reduceLT, Nat.reduceLeDiff, Nat.reduceAdd, Nat.reduceSub, Nat.sub_self, Nat.le_refl, Nat.add_zero, if_true, if_false, Bool.false_eq_true, reduceCtorEq, ne_eq, not_false_eq_true, List.getElem?_cons_zero, Option.bind_some, Option.map_some, tt_5, tt_53]
        refine ⟨by omega, ?_⟩
        refine hK _ ?_
        clear hK K
        refine W.blockK ?_
        refine W.seqK fun Kc hKc => ?_
        by_cases h5 : rk y = 5
        · have h5' : (y.kd.tmod 8 == 5) = true := by rw [show y.kd.tmod 8 = 5 from h5]; rfl
          refine W.seqK fun K hK => W.regionK tt_ok ?_
          simp only [exOps_nil, exOps_cons, exOp_eq, nx_eq, cur_eq, stepQ, ev, ofV, lk, putT, erA, inB, opt, bnd, req, ret, onQ, ap, binG, binF, intF, true_and, and_self, Nat.reduceEqDiff, Nat.reduceLT, Nat.reduceAdd, if_true, if_false, h5']
          refine hK _ ?_
          clear hK K
          refine W.cond (b := true) (by simp only [ev, lk, Nat.reduceEqDiff, if_true, if_false]) (fun _ => ?_) (fun h => absurd h (by simp))
          refine W.skip ?_
          simp only [thn_normal]
          refine hKc _ ?_
          refine W.cond (b := true) (by simp only [ev, lk, Nat.reduceEqDiff, if_true, if_false]) (fun _ => ?_) (fun h => absurd h (by simp))
          have hs1 : S1 = takS S y.x.h y.x.n := by rw [hs, acS, hfw]; simp [*]
          have hb1 : b1 = b := by rw [hb, acN, hfw]; simp [*]
          have rt := rtake_v S y.x.h y.x.n (by omega)
          have ck := take_own 200 848 (by omega) S y.x.h y.x.n (by omega)
          unfold rw3 at ck
          rw [← hs1] at rt ck
          cases b with
          | true =>
            have hS := hnl rfl
            have e4 : S1 = S := by rw [hs1, hS]; rfl
            have e5 : takK S y.x.h y.x.n = eS := by rw [hS]; rfl
            have e6 : takE S y.x.h y.x.n = 9 := by rw [hS]; rfl
            rw [e5, e6] at rt
            simp only [if_true]
            refine W.seqK fun K hK => W.regionK tt_ok ?_
            simp only [exOps_cons, exOp_eq, exCall_eq, nx_eq, cur_eq, evL, stepQ, ev, lk, putT, erA, inB, opt, bnd, req, ret, onQ, ap, er, ldP, ldE, ldC, ldS, Kd.agg, comps, csize, takeI, takeC, dropC, fldF, true_and, and_self, Nat.reduceEqDiff, Nat.reduceLT, Nat.reduceLeDiff, Nat.reduceAdd, Nat.reduceSub, Nat.sub_self, Nat.le_refl, Nat.add_zero, Nat.zero_add, if_true, if_false, Bool.false_eq_true, reduceCtorEq, ne_eq, not_false_eq_true, List.getElem?_cons_zero, List.getElem?_cons_succ, Option.bind_some, Option.map_some, tt_3, tt_9, tt_24, tt_53]
            refine CallK.pure _ _ (take_nil y.x.h y.x.n) call13 (by simp only [AV.nmIn, bnd, req, ret, onQ, AV.isTup, isTupL, true_and, and_self, Bool.false_eq_true, List.append_nil, vw.vwL, vw, AV.free, AV.freeL, Bool.or_self]; all_goals (and_intros <;> first | exact AV.subL_refl _ | omega | (simp [AV.sub]; done) | rfl | (simp [AV.subL_refl]; done) | (simp; exact AV.subL_refl _))) ?_
            simp only [exOps_nil, exOps_cons, exOp_eq, nx_eq, cur_eq, stepQ, ev, lk, putT, erA, inB, opt, ret, onQ, ap, true_and, Nat.reduceEqDiff, Nat.reduceLT, Nat.reduceAdd, if_true, if_false, List.getElem?_cons_zero, List.getElem?_cons_succ]
            refine hK _ ?_
            clear hK K
            refine W.seqK fun K hK => W.regionK tt_ok ?_
            simp only [exOps_cons, exOp_eq, exCall_eq, nx_eq, cur_eq, evL, stepQ, ev, lk, putT, erA, inB, opt, bnd, req, ret, onQ, ap, ldP, ldE, ldC, ldS, Kd.agg, comps, csize, takeI, takeC, dropC, fldF, true_and, and_self, Nat.reduceEqDiff, Nat.reduceLT, Nat.reduceLeDiff, Nat.reduceAdd, Nat.reduceSub, Nat.sub_self, Nat.le_refl, Nat.add_zero, Nat.zero_add, if_true, if_false, Bool.false_eq_true, reduceCtorEq, ne_eq, not_false_eq_true, List.getElem?_cons_zero, List.getElem?_cons_succ, Option.bind_some, Option.map_some, tt_3, tt_9, tt_24, tt_53]
            refine CallK.pure _ _ rt call14 (by simp only [AV.nmIn, bnd, req, ret, onQ, AV.isTup, isTupL, true_and, and_self, Bool.false_eq_true, List.append_nil, vw.vwL, vw, AV.free, AV.freeL, Bool.or_self]; all_goals (and_intros <;> first | exact AV.subL_refl _ | omega | (simp [AV.sub]; done) | rfl | (simp [AV.subL_refl]; done) | (simp; exact AV.subL_refl _))) ?_
            simp only [exOps_nil, exOps_cons, exOp_eq, nx_eq, cur_eq, stepQ, ev, lk, putT, erA, inB, opt, ret, onQ, ap, true_and, Nat.reduceEqDiff, Nat.reduceLT, Nat.reduceAdd, if_true, if_false, List.getElem?_cons_zero, List.getElem?_cons_succ]
            refine hK _ ?_
            clear hK K
            refine W.seqK fun Kw hKw => ?_
            refine W.seqK fun K hK => W.regionK tt_ok ?_
            simp only [Bool.not_true, ↓gFF, ↓nFF, exOps_nil, exOps_cons, exOp_eq, nx_eq, cur_eq, stepQ, ev, lk, putT, erA, inB, opt, bnd, req, ret, onQ, ap, binG, binF, intF, strF, pickF, and_true, true_and, and_self, Nat.reduceEqDiff, Nat.reduceLT, Nat.reduceAdd, if_true, if_false, List.getElem?_cons_zero, List.getElem?_cons_succ, Option.bind_some, beq_self_eq_true, bne_self_eq_false]
            refine hK _ ?_
            clear hK K
            refine W.cond (b := false) (by simp only [ev, lk, Nat.reduceEqDiff, if_true, if_false]) (fun h => absurd h (by simp)) (fun _ => W.skip ?_)
            simp only [thn_normal]
            refine hKw _ ?_
            refine W.region tt_ok ?_
            simp only [exOps_nil, exOps_cons, exOp_eq, nx_eq, cur_eq, stepQ, ev, lk, putT, erA, inB, opt, ret, onQ, ap, thn_normal, inb_normal, true_and, Nat.reduceEqDiff, Nat.reduceLT, Nat.reduceAdd, if_true, if_false]
            refine hKj _ 200 200 ⟨⟨by simp [Nm, lk], by simp [Nm, lk]⟩, by simp, by simp⟩ ?_
            rw [hb1]
            simp [St.swap, tmMap, enMap, swp, AV.map, AV.mapL, Ent.map, wk, leL, lk, nmT, nmE, nmH, AV.nmIn]
          | false =>
            rw [if_neg (by simp)]
            rw [if_neg (by simp)]
            unfold rw3
            generalize takK S y.x.h y.x.n = TK at *
            generalize takE S y.x.h y.x.n = TE at *
            refine W.seqK fun K hK => W.regionK tt_ok ?_
            simp only [exOps_cons, exOp_eq, exCall_eq, nx_eq, cur_eq, evL, stepQ, ev, lk, putT, erA, inB, opt, bnd, req, ret, onQ, ap, er, ldP, ldE, ldC, ldS, Kd.agg, comps, csize, takeI, takeC, dropC, fldF, true_and, and_self, Nat.reduceEqDiff, Nat.reduceLT, Nat.reduceLeDiff, Nat.reduceAdd, Nat.reduceSub, Nat.sub_self, Nat.le_refl, Nat.add_zero, Nat.zero_add, if_true, if_false, Bool.false_eq_true, reduceCtorEq, ne_eq, not_false_eq_true, List.getElem?_cons_zero, List.getElem?_cons_succ, Option.bind_some, Option.map_some, tt_3, tt_9, tt_24, tt_53]
            refine CallK.with [(200, .vec 33 (.avs 3 (S.map itV)))] [(848, .vec 33 (.avs 3 (S1.map itV))), (200, .vec 33 (.avs 3 (S.map itV)))] _ _ ck call13 (by simp only [AV.nmIn, lk, bnd, req, ret, onQ, AV.isTup, isTupL, true_and, and_self, if_true, Bool.false_eq_true, List.append_nil, vw.vwL, vw, AV.free, AV.freeL, Bool.or_self]; all_goals (and_intros <;> first | exact AV.subL_refl _ | omega | (simp [AV.sub, entsFree, Ent.free, Row.free, free_its]; done) | rfl | (simp [AV.subL_refl]; done))) (by simp [leL, lk]) (by intro n hn; first | (left; revert hn; simp [Nm, lk]; done) | (right; revert hn; simp only [Nm, lk]; split <;> simp <;> omega) | (by_cases h1 : Nm [(200, .vec 33 (.avs 3 (S.map itV)))] n; exact .inl h1; right; revert hn h1; simp only [Nm, lk]; split <;> (try split) <;> (try split) <;> (try split) <;> (try simp) <;> (try omega))) (by simp [entsIn, Ent.nmIn, Row.nmIn, nm_its]) ?_
            simp only [callDel, exOps_nil, exOps_cons, exOp_eq, nx_eq, cur_eq, stepQ, ev, lk, putT, erA, inB, opt, ret, onQ, ap, up, er, true_and, Nat.reduceEqDiff, Nat.reduceLT, Nat.reduceAdd, if_true, if_false, List.getElem?_cons_zero, List.getElem?_cons_succ, List.nil_append, List.cons_append, List.map_cons, List.map_nil, List.reverse_cons, List.reverse_nil, List.cons_append, List.nil_append]
            refine hK _ ?_
            clear hK K
            refine W.seqK fun K hK => W.regionK tt_ok ?_
            simp only [exOps_cons, exOp_eq, exCall_eq, nx_eq, cur_eq, evL, stepQ, ev, lk, putT, erA, inB, opt, bnd, req, ret, onQ, ap, ldP, ldE, ldC, ldS, Kd.agg, comps, csize, takeI, takeC, dropC, fldF, true_and, and_self, Nat.reduceEqDiff, Nat.reduceLT, Nat.reduceLeDiff, Nat.reduceAdd, Nat.reduceSub, Nat.sub_self, Nat.le_refl, Nat.add_zero, Nat.zero_add, if_true, if_false, Bool.false_eq_true, reduceCtorEq, ne_eq, not_false_eq_true, List.getElem?_cons_zero, List.getElem?_cons_succ, Option.bind_some, Option.map_some, tt_3, tt_9, tt_24, tt_53]
            refine CallK.pure _ _ rt call14 (by simp only [AV.nmIn, bnd, req, ret, onQ, AV.isTup, isTupL, true_and, and_self, Bool.false_eq_true, List.append_nil, vw.vwL, vw, AV.free, AV.freeL, Bool.or_self]; all_goals (and_intros <;> first | exact AV.subL_refl _ | omega | (simp [AV.sub]; done) | rfl | (simp [AV.subL_refl]; done) | (simp; exact AV.subL_refl _))) ?_
            simp only [exOps_nil, exOps_cons, exOp_eq, nx_eq, cur_eq, stepQ, ev, lk, putT, erA, inB, opt, ret, onQ, ap, true_and, Nat.reduceEqDiff, Nat.reduceLT, Nat.reduceAdd, if_true, if_false, List.getElem?_cons_zero, List.getElem?_cons_succ]
            refine hK _ ?_
            clear hK K
            refine W.seqK fun Kw hKw => ?_
            refine W.seqK fun K hK => W.regionK tt_ok ?_
            simp only [Bool.not_true, ↓gFF, ↓nFF, exOps_nil, exOps_cons, exOp_eq, nx_eq, cur_eq, stepQ, ev, lk, putT, erA, inB, opt, bnd, req, ret, onQ, ap, binG, binF, intF, strF, pickF, and_true, true_and, and_self, Nat.reduceEqDiff, Nat.reduceLT, Nat.reduceAdd, if_true, if_false, List.getElem?_cons_zero, List.getElem?_cons_succ, Option.bind_some, beq_self_eq_true, bne_self_eq_false]
            refine hK _ ?_
            clear hK K
            refine W.cond (b := false) (by simp only [ev, lk, Nat.reduceEqDiff, if_true, if_false]) (fun h => absurd h (by simp)) (fun _ => W.skip ?_)
            simp only [thn_normal]
            refine hKw _ ?_
            refine W.region tt_ok ?_
            simp only [exOps_nil, exOps_cons, exOp_eq, nx_eq, cur_eq, stepQ, ev, lk, putT, erA, inB, opt, ret, onQ, ap, thn_normal, inb_normal, true_and, Nat.reduceEqDiff, Nat.reduceLT, Nat.reduceAdd, if_true, if_false]
            refine hKj _ 848 200 ⟨⟨by simp [Nm, lk], by simp [Nm, lk]⟩, by simp, by simp⟩ ?_
            rw [hb1]
            simp [St.swap, tmMap, enMap, swp, AV.map, AV.mapL, Ent.map, Row.map, rw3, wk, leL, lk, nmT, nmE, nmH, AV.nmIn, Ent.nmIn, Row.nmIn, nm_its, ml_its]
        · have h5' : (y.kd.tmod 8 == 5) = false := by simpa [rk] using h5
          refine W.seqK fun K hK => W.regionK tt_ok ?_
          simp only [exOps_nil, exOps_cons, exOp_eq, nx_eq, cur_eq, stepQ, ev, ofV, lk, putT, erA, inB, opt, bnd, req, ret, onQ, ap, binG, binF, intF, true_and, and_self, Nat.reduceEqDiff, Nat.reduceLT, Nat.reduceAdd, if_true, if_false, h5']
          refine hK _ ?_
          clear hK K
          refine W.cond (b := false) (by simp only [ev, lk, Nat.reduceEqDiff, if_true, if_false]) (fun h => absurd h (by simp)) (fun _ => ?_)
          by_cases h6 : rk y = 6
          · have h6' : (y.kd.tmod 8 == 6) = true := by rw [show y.kd.tmod 8 = 6 from h6]; rfl
            refine W.region tt_ok ?_
            simp only [exOps_nil, exOps_cons, exOp_eq, nx_eq, cur_eq, stepQ, ev, ofV, lk, putT, erA, inB, opt, bnd, req, ret, onQ, ap, binG, binF, intF, thn_normal, true_and, and_self, Nat.reduceEqDiff, Nat.reduceLT, Nat.reduceAdd, if_true, if_false, h6']
            refine hKc _ ?_
            refine W.cond (b := true) (by simp only [ev, lk, Nat.reduceEqDiff, if_true, if_false]) (fun _ => ?_) (fun h => absurd h (by simp))
            have hs1 : S1 = takS S y.x.h y.x.n := by rw [hs, acS, hfw]; simp [*]
            have hb1 : b1 = b := by rw [hb, acN, hfw]; simp [*]
            have rt := rtake_v S y.x.h y.x.n (by omega)
            have ck := take_own 200 880 (by omega) S y.x.h y.x.n (by omega)
            unfold rw3 at ck
            rw [← hs1] at rt ck
            cases b with
            | true =>
              have hS := hnl rfl
              have e4 : S1 = S := by rw [hs1, hS]; rfl
              have e5 : takK S y.x.h y.x.n = eS := by rw [hS]; rfl
              have e6 : takE S y.x.h y.x.n = 9 := by rw [hS]; rfl
              rw [e5, e6] at rt
              simp only [if_true]
              refine W.seqK fun K hK => W.regionK tt_ok ?_
              simp only [exOps_cons, exOp_eq, exCall_eq, nx_eq, cur_eq, evL, stepQ, ev, lk, putT, erA, inB, opt, bnd, req, ret, onQ, ap, er, ldP, ldE, ldC, ldS, Kd.agg, comps, csize, takeI, takeC, dropC, fldF, true_and, and_self, Nat.reduceEqDiff, Nat.reduceLT, Nat.reduceLeDiff, Nat.reduceAdd, Nat.reduceSub, Nat.sub_self, Nat.le_refl, Nat.add_zero, Nat.zero_add, if_true, if_false, Bool.false_eq_true, reduceCtorEq, ne_eq, not_false_eq_true, List.getElem?_cons_zero, List.getElem?_cons_succ, Option.bind_some, Option.map_some, tt_3, tt_9, tt_24, tt_53]
              refine CallK.pure _ _ (take_nil y.x.h y.x.n) call13 (by simp only [AV.nmIn, bnd, req, ret, onQ, AV.isTup, isTupL, true_and, and_self, Bool.false_eq_true, List.append_nil, vw.vwL, vw, AV.free, AV.freeL, Bool.or_self]; all_goals (and_intros <;> first | exact AV.subL_refl _ | omega | (simp [AV.sub]; done) | rfl | (simp [AV.subL_refl]; done) | (simp; exact AV.subL_refl _))) ?_
              simp only [exOps_nil, exOps_cons, exOp_eq, nx_eq, cur_eq, stepQ, ev, lk, putT, erA, inB, opt, ret, onQ, ap, true_and, Nat.reduceEqDiff, Nat.reduceLT, Nat.reduceAdd, if_true, if_false, List.getElem?_cons_zero, List.getElem?_cons_succ]
              refine hK _ ?_
              clear hK K
              refine W.seqK fun K hK => W.regionK tt_ok ?_
              simp only [exOps_cons, exOp_eq, exCall_eq, nx_eq, cur_eq, evL, stepQ, ev, lk, putT, erA, inB, opt, bnd, req, ret, onQ, ap, ldP, ldE, ldC, ldS, Kd.agg, comps, csize, takeI, takeC, dropC, fldF, true_and, and_self, Nat.reduceEqDiff, Nat.reduceLT, Nat.reduceLeDiff, Nat.reduceAdd, Nat.reduceSub, Nat.sub_self, Nat.le_refl, Nat.add_zero, Nat.zero_add, if_true, if_false, Bool.false_eq_true, reduceCtorEq, ne_eq, not_false_eq_true, List.getElem?_cons_zero, List.getElem?_cons_succ, Option.bind_some, Option.map_some, tt_3, tt_9, tt_24, tt_53]
              refine CallK.pure _ _ rt call14 (by simp only [AV.nmIn, bnd, req, ret, onQ, AV.isTup, isTupL, true_and, and_self, Bool.false_eq_true, List.append_nil, vw.vwL, vw, AV.free, AV.freeL, Bool.or_self]; all_goals (and_intros <;> first | exact AV.subL_refl _ | omega | (simp [AV.sub]; done) | rfl | (simp [AV.subL_refl]; done) | (simp; exact AV.subL_refl _))) ?_
              simp only [exOps_nil, exOps_cons, exOp_eq, nx_eq, cur_eq, stepQ, ev, lk, putT, erA, inB, opt, ret, onQ, ap, true_and, Nat.reduceEqDiff, Nat.reduceLT, Nat.reduceAdd, if_true, if_false, List.getElem?_cons_zero, List.getElem?_cons_succ]
              refine hK _ ?_
              clear hK K
              refine W.seqK fun Kw hKw => ?_
              refine W.seqK fun K hK => W.regionK tt_ok ?_
              simp only [Bool.not_true, ↓gFF, ↓nFF, exOps_nil, exOps_cons, exOp_eq, nx_eq, cur_eq, stepQ, ev, lk, putT, erA, inB, opt, bnd, req, ret, onQ, ap, binG, binF, intF, strF, pickF, and_true, true_and, and_self, Nat.reduceEqDiff, Nat.reduceLT, Nat.reduceAdd, if_true, if_false, List.getElem?_cons_zero, List.getElem?_cons_succ, Option.bind_some, beq_self_eq_true, bne_self_eq_false]
              refine hK _ ?_
              clear hK K
              refine W.cond (b := false) (by simp only [ev, lk, Nat.reduceEqDiff, if_true, if_false]) (fun h => absurd h (by simp)) (fun _ => W.skip ?_)
              simp only [thn_normal]
              refine hKw _ ?_
              refine W.region tt_ok ?_
              simp only [exOps_nil, exOps_cons, exOp_eq, nx_eq, cur_eq, stepQ, ev, lk, putT, erA, inB, opt, ret, onQ, ap, thn_normal, inb_normal, true_and, Nat.reduceEqDiff, Nat.reduceLT, Nat.reduceAdd, if_true, if_false]
              refine hKj _ 200 200 ⟨⟨by simp [Nm, lk], by simp [Nm, lk]⟩, by simp, by simp⟩ ?_
              rw [hb1]
              simp [St.swap, tmMap, enMap, swp, AV.map, AV.mapL, Ent.map, wk, leL, lk, nmT, nmE, nmH, AV.nmIn]
            | false =>
              rw [if_neg (by simp)]
              rw [if_neg (by simp)]
              unfold rw3
              generalize takK S y.x.h y.x.n = TK at *
              generalize takE S y.x.h y.x.n = TE at *
              refine W.seqK fun K hK => W.regionK tt_ok ?_
              simp only [exOps_cons, exOp_eq, exCall_eq, nx_eq, cur_eq, evL, stepQ, ev, lk, putT, erA, inB, opt, bnd, req, ret, onQ, ap, er, ldP, ldE, ldC, ldS, Kd.agg, comps, csize, takeI, takeC, dropC, fldF, true_and, and_self, Nat.reduceEqDiff, Nat.reduceLT, Nat.reduceLeDiff, Nat.reduceAdd, Nat.reduceSub, Nat.sub_self, Nat.le_refl, Nat.add_zero, Nat.zero_add, if_true, if_false, Bool.false_eq_true, reduceCtorEq, ne_eq, not_false_eq_true, List.getElem?_cons_zero, List.getElem?_cons_succ, Option.bind_some, Option.map_some, tt_3, tt_9, tt_24, tt_53]
              refine CallK.with [(200, .vec 33 (.avs 3 (S.map itV)))] [(880, .vec 33 (.avs 3 (S1.map itV))), (200, .vec 33 (.avs 3 (S.map itV)))] _ _ ck call13 (by simp only [AV.nmIn, lk, bnd, req, ret, onQ, AV.isTup, isTupL, true_and, and_self, if_true, Bool.false_eq_true, List.append_nil, vw.vwL, vw, AV.free, AV.freeL, Bool.or_self]; all_goals (and_intros <;> first | exact AV.subL_refl _ | omega | (simp [AV.sub, entsFree, Ent.free, Row.free, free_its]; done) | rfl | (simp [AV.subL_refl]; done))) (by simp [leL, lk]) (by intro n hn; first | (left; revert hn; simp [Nm, lk]; done) | (right; revert hn; simp only [Nm, lk]; split <;> simp <;> omega) | (by_cases h1 : Nm [(200, .vec 33 (.avs 3 (S.map itV)))] n; exact .inl h1; right; revert hn h1; simp only [Nm, lk]; split <;> (try split) <;> (try split) <;> (try split) <;> (try simp) <;> (try omega))) (by simp [entsIn, Ent.nmIn, Row.nmIn, nm_its]) ?_
              simp only [callDel, exOps_nil, exOps_cons, exOp_eq, nx_eq, cur_eq, stepQ, ev, lk, putT, erA, inB, opt, ret, onQ, ap, up, er, true_and, Nat.reduceEqDiff, Nat.reduceLT, Nat.reduceAdd, if_true, if_false, List.getElem?_cons_zero, List.getElem?_cons_succ, List.nil_append, List.cons_append, List.map_cons, List.map_nil, List.reverse_cons, List.reverse_nil, List.cons_append, List.nil_append]
              refine hK _ ?_
              clear hK K
              refine W.seqK fun K hK => W.regionK tt_ok ?_
              simp only [exOps_cons, exOp_eq, exCall_eq, nx_eq, cur_eq, evL, stepQ, ev, lk, putT, erA, inB, opt, bnd, req, ret, onQ, ap, ldP, ldE, ldC, ldS, Kd.agg, comps, csize, takeI, takeC, dropC, fldF, true_and, and_self, Nat.reduceEqDiff, Nat.reduceLT, Nat.reduceLeDiff, Nat.reduceAdd, Nat.reduceSub, Nat.sub_self, Nat.le_refl, Nat.add_zero, Nat.zero_add, if_true, if_false, Bool.false_eq_true, reduceCtorEq, ne_eq, not_false_eq_true, List.getElem?_cons_zero, List.getElem?_cons_succ, Option.bind_some, Option.map_some, tt_3, tt_9, tt_24, tt_53]
              refine CallK.pure _ _ rt call14 (by simp only [AV.nmIn, bnd, req, ret, onQ, AV.isTup, isTupL, true_and, and_self, Bool.false_eq_true, List.append_nil, vw.vwL, vw, AV.free, AV.freeL, Bool.or_self]; all_goals (and_intros <;> first | exact AV.subL_refl _ | omega | (simp [AV.sub]; done) | rfl | (simp [AV.subL_refl]; done) | (simp; exact AV.subL_refl _))) ?_
              simp only [exOps_nil, exOps_cons, exOp_eq, nx_eq, cur_eq, stepQ, ev, lk, putT, erA, inB, opt, ret, onQ, ap, true_and, Nat.reduceEqDiff, Nat.reduceLT, Nat.reduceAdd, if_true, if_false, List.getElem?_cons_zero, List.getElem?_cons_succ]
              refine hK _ ?_
              clear hK K
              refine W.seqK fun Kw hKw => ?_
              refine W.seqK fun K hK => W.regionK tt_ok ?_
              simp only [Bool.not_true, ↓gFF, ↓nFF, exOps_nil, exOps_cons, exOp_eq, nx_eq, cur_eq, stepQ, ev, lk, putT, erA, inB, opt, bnd, req, ret, onQ, ap, binG, binF, intF, strF, pickF, and_true, true_and, and_self, Nat.reduceEqDiff, Nat.reduceLT, Nat.reduceAdd, if_true, if_false, List.getElem?_cons_zero, List.getElem?_cons_succ, Option.bind_some, beq_self_eq_true, bne_self_eq_false]
              refine hK _ ?_
              clear hK K
              refine W.cond (b := false) (by simp only [ev, lk, Nat.reduceEqDiff, if_true, if_false]) (fun h => absurd h (by simp)) (fun _ => W.skip ?_)
              simp only [thn_normal]
              refine hKw _ ?_
              refine W.region tt_ok ?_
              simp only [exOps_nil, exOps_cons, exOp_eq, nx_eq, cur_eq, stepQ, ev, lk, putT, erA, inB, opt, ret, onQ, ap, thn_normal, inb_normal, true_and, Nat.reduceEqDiff, Nat.reduceLT, Nat.reduceAdd, if_true, if_false]
              refine hKj _ 880 200 ⟨⟨by simp [Nm, lk], by simp [Nm, lk]⟩, by simp, by simp⟩ ?_
              rw [hb1]
              simp [St.swap, tmMap, enMap, swp, AV.map, AV.mapL, Ent.map, Row.map, rw3, wk, leL, lk, nmT, nmE, nmH, AV.nmIn, Ent.nmIn, Row.nmIn, nm_its, ml_its]
          · have h6' : (y.kd.tmod 8 == 6) = false := by simpa [rk] using h6
            refine W.region tt_ok ?_
            simp only [exOps_nil, exOps_cons, exOp_eq, nx_eq, cur_eq, stepQ, ev, ofV, lk, putT, erA, inB, opt, bnd, req, ret, onQ, ap, binG, binF, intF, thn_normal, true_and, and_self, Nat.reduceEqDiff, Nat.reduceLT, Nat.reduceAdd, if_true, if_false, h6']
            refine hKc _ ?_
            refine W.cond (b := false) (by simp only [ev, lk, Nat.reduceEqDiff, if_true, if_false]) (fun h => absurd h (by simp)) (fun _ => ?_)
            by_cases h7 : rk y = 7
            · have h7' : (y.kd.tmod 8 == 7) = true := by rw [show y.kd.tmod 8 = 7 from h7]; rfl
              refine W.seqK fun K hK => W.regionK tt_ok ?_
              simp only [exOps_nil, exOps_cons, exOp_eq, nx_eq, cur_eq, stepQ, ev, ofV, lk, putT, erA, inB, opt, bnd, req, ret, onQ, ap, binG, binF, intF, true_and, and_self, Nat.reduceEqDiff, Nat.reduceLT, Nat.reduceAdd, if_true, if_false, h7']
              refine hK _ ?_
              clear hK K
              refine W.cond (b := true) (by simp only [ev, lk, Nat.reduceEqDiff, if_true, if_false]) (fun _ => ?_) (fun h => absurd h (by simp))
              have hs1 : S1 = noH y.x.h S := by rw [hs, acS, hfw]; simp [*]
              have hb1 : b1 = b := by rw [hb, acN, hfw]; simp [*]
              have rt := rdrop_v S y.x.h (by omega)
              have ck := drop_own 200 864 (by omega) y.x.h S (by omega)
              unfold rw3 at ck
              rw [← hs1] at rt ck
              cases b with
              | true =>
                have hS := hnl rfl
                have e4 : S1 = S := by rw [hs1, hS]; rfl
                simp only [if_true]
                refine W.seqK fun K hK => W.regionK tt_ok ?_
                simp only [exOps_cons, exOp_eq, exCall_eq, nx_eq, cur_eq, evL, stepQ, ev, lk, putT, erA, inB, opt, bnd, req, ret, onQ, ap, er, ldP, ldE, ldC, ldS, Kd.agg, comps, csize, takeI, takeC, dropC, fldF, true_and, and_self, Nat.reduceEqDiff, Nat.reduceLT, Nat.reduceLeDiff, Nat.reduceAdd, Nat.reduceSub, Nat.sub_self, Nat.le_refl, Nat.add_zero, Nat.zero_add, if_true, if_false, Bool.false_eq_true, reduceCtorEq, ne_eq, not_false_eq_true, List.getElem?_cons_zero, List.getElem?_cons_succ, Option.bind_some, Option.map_some, tt_9, tt_24, tt_53]
                refine CallK.pure _ _ (drop_nil y.x.h) call15 (by simp only [AV.nmIn, bnd, req, ret, onQ, AV.isTup, isTupL, true_and, and_self, Bool.false_eq_true, List.append_nil, vw.vwL, vw, AV.free, AV.freeL, Bool.or_self]; all_goals (and_intros <;> first | exact AV.subL_refl _ | omega | (simp [AV.sub]; done) | rfl | (simp [AV.subL_refl]; done) | (simp; exact AV.subL_refl _))) ?_
                simp only [exOps_nil, exOps_cons, exOp_eq, nx_eq, cur_eq, stepQ, ev, lk, putT, erA, inB, opt, ret, onQ, ap, true_and, Nat.reduceEqDiff, Nat.reduceLT, Nat.reduceAdd, if_true, if_false, List.getElem?_cons_zero, List.getElem?_cons_succ]
                refine hK _ ?_
                clear hK K
                refine W.seqK fun K hK => W.regionK tt_ok ?_
                simp only [exOps_cons, exOp_eq, exCall_eq, nx_eq, cur_eq, evL, stepQ, ev, lk, putT, erA, inB, opt, bnd, req, ret, onQ, ap, ldP, ldE, ldC, ldS, Kd.agg, comps, csize, takeI, takeC, dropC, fldF, true_and, and_self, Nat.reduceEqDiff, Nat.reduceLT, Nat.reduceLeDiff, Nat.reduceAdd, Nat.reduceSub, Nat.sub_self, Nat.le_refl, Nat.add_zero, Nat.zero_add, if_true, if_false, Bool.false_eq_true, reduceCtorEq, ne_eq, not_false_eq_true, List.getElem?_cons_zero, List.getElem?_cons_succ, Option.bind_some, Option.map_some, tt_9, tt_24, tt_53]
                refine CallK.pure _ _ rt call16 (by simp only [AV.nmIn, bnd, req, ret, onQ, AV.isTup, isTupL, true_and, and_self, Bool.false_eq_true, List.append_nil, vw.vwL, vw, AV.free, AV.freeL, Bool.or_self]; all_goals (and_intros <;> first | exact AV.subL_refl _ | omega | (simp [AV.sub]; done) | rfl | (simp [AV.subL_refl]; done) | (simp; exact AV.subL_refl _))) ?_
                simp only [exOps_nil, exOps_cons, exOp_eq, nx_eq, cur_eq, stepQ, ev, lk, putT, erA, inB, opt, ret, onQ, ap, true_and, Nat.reduceEqDiff, Nat.reduceLT, Nat.reduceAdd, if_true, if_false, List.getElem?_cons_zero, List.getElem?_cons_succ]
                refine hK _ ?_
                clear hK K
                refine W.region tt_ok ?_
                simp only [exOps_nil, exOps_cons, exOp_eq, nx_eq, cur_eq, stepQ, ev, lk, putT, erA, inB, opt, ret, onQ, ap, thn_normal, inb_normal, true_and, Nat.reduceEqDiff, Nat.reduceLT, Nat.reduceAdd, if_true, if_false]
                refine hKj _ 200 200 ⟨⟨by simp [Nm, lk], by simp [Nm, lk]⟩, by simp, by simp⟩ ?_
                rw [hb1]
                simp [St.swap, tmMap, enMap, swp, AV.map, AV.mapL, Ent.map, wk, leL, lk, nmT, nmE, nmH, AV.nmIn]
              | false =>
                rw [if_neg (by simp)]
                rw [if_neg (by simp)]
                unfold rw3
                refine W.seqK fun K hK => W.regionK tt_ok ?_
                simp only [exOps_cons, exOp_eq, exCall_eq, nx_eq, cur_eq, evL, stepQ, ev, lk, putT, erA, inB, opt, bnd, req, ret, onQ, ap, er, ldP, ldE, ldC, ldS, Kd.agg, comps, csize, takeI, takeC, dropC, fldF, true_and, and_self, Nat.reduceEqDiff, Nat.reduceLT, Nat.reduceLeDiff, Nat.reduceAdd, Nat.reduceSub, Nat.sub_self, Nat.le_refl, Nat.add_zero, Nat.zero_add, if_true, if_false, Bool.false_eq_true, reduceCtorEq, ne_eq, not_false_eq_true, List.getElem?_cons_zero, List.getElem?_cons_succ, Option.bind_some, Option.map_some, tt_9, tt_24, tt_53]
                refine CallK.with [(200, .vec 33 (.avs 3 (S.map itV)))] [(864, .vec 33 (.avs 3 (S1.map itV))), (200, .vec 33 (.avs 3 (S.map itV)))] _ _ ck call15 (by simp only [AV.nmIn, lk, bnd, req, ret, onQ, AV.isTup, isTupL, true_and, and_self, if_true, Bool.false_eq_true, List.append_nil, vw.vwL, vw, AV.free, AV.freeL, Bool.or_self]; all_goals (and_intros <;> first | exact AV.subL_refl _ | omega | (simp [AV.sub, entsFree, Ent.free, Row.free, free_its]; done) | rfl | (simp [AV.subL_refl]; done))) (by simp [leL, lk]) (by intro n hn; first | (left; revert hn; simp [Nm, lk]; done) | (right; revert hn; simp only [Nm, lk]; split <;> simp <;> omega) | (by_cases h1 : Nm [(200, .vec 33 (.avs 3 (S.map itV)))] n; exact .inl h1; right; revert hn h1; simp only [Nm, lk]; split <;> (try split) <;> (try split) <;> (try split) <;> (try simp) <;> (try omega))) (by simp [entsIn, Ent.nmIn, Row.nmIn, nm_its]) ?_
                simp only [callDel, exOps_nil, exOps_cons, exOp_eq, nx_eq, cur_eq, stepQ, ev, lk, putT, erA, inB, opt, ret, onQ, ap, up, er, true_and, Nat.reduceEqDiff, Nat.reduceLT, Nat.reduceAdd, if_true, if_false, List.getElem?_cons_zero, List.getElem?_cons_succ, List.nil_append, List.cons_append, List.map_cons, List.map_nil, List.reverse_cons, List.reverse_nil, List.cons_append, List.nil_append]
                refine hK _ ?_
                clear hK K
                refine W.seqK fun K hK => W.regionK tt_ok ?_
                simp only [exOps_cons, exOp_eq, exCall_eq, nx_eq, cur_eq, evL, stepQ, ev, lk, putT, erA, inB, opt, bnd, req, ret, onQ, ap, ldP, ldE, ldC, ldS, Kd.agg, comps, csize, takeI, takeC, dropC, fldF, true_and, and_self, Nat.reduceEqDiff, Nat.reduceLT, Nat.reduceLeDiff, Nat.reduceAdd, Nat.reduceSub, Nat.sub_self, Nat.le_refl, Nat.add_zero, Nat.zero_add, if_true, if_false, Bool.false_eq_true, reduceCtorEq, ne_eq, not_false_eq_true, List.getElem?_cons_zero, List.getElem?_cons_succ, Option.bind_some, Option.map_some, tt_9, tt_24, tt_53]
                refine CallK.pure _ _ rt call16 (by simp only [AV.nmIn, bnd, req, ret, onQ, AV.isTup, isTupL, true_and, and_self, Bool.false_eq_true, List.append_nil, vw.vwL, vw, AV.free, AV.freeL, Bool.or_self]; all_goals (and_intros <;> first | exact AV.subL_refl _ | omega | (simp [AV.sub]; done) | rfl | (simp [AV.subL_refl]; done) | (simp; exact AV.subL_refl _))) ?_
                simp only [exOps_nil, exOps_cons, exOp_eq, nx_eq, cur_eq, stepQ, ev, lk, putT, erA, inB, opt, ret, onQ, ap, true_and, Nat.reduceEqDiff, Nat.reduceLT, Nat.reduceAdd, if_true, if_false, List.getElem?_cons_zero, List.getElem?_cons_succ]
                refine hK _ ?_
                clear hK K
                refine W.region tt_ok ?_
                simp only [exOps_nil, exOps_cons, exOp_eq, nx_eq, cur_eq, stepQ, ev, lk, putT, erA, inB, opt, ret, onQ, ap, thn_normal, inb_normal, true_and, Nat.reduceEqDiff, Nat.reduceLT, Nat.reduceAdd, if_true, if_false]
                refine hKj _ 864 200 ⟨⟨by simp [Nm, lk], by simp [Nm, lk]⟩, by simp, by simp⟩ ?_
                rw [hb1]
                simp [St.swap, tmMap, enMap, swp, AV.map, AV.mapL, Ent.map, Row.map, rw3, wk, leL, lk, nmT, nmE, nmH, AV.nmIn, Ent.nmIn, Row.nmIn, nm_its, ml_its]
            · have h7' : (y.kd.tmod 8 == 7) = false := by simpa [rk] using h7
              refine W.seqK fun K hK => W.regionK tt_ok ?_
              simp only [exOps_nil, exOps_cons, exOp_eq, nx_eq, cur_eq, stepQ, ev, ofV, lk, putT, erA, inB, opt, bnd, req, ret, onQ, ap, binG, binF, intF, true_and, and_self, Nat.reduceEqDiff, Nat.reduceLT, Nat.reduceAdd, if_true, if_false, h7']
              refine hK _ ?_
              clear hK K
              refine W.cond (b := false) (by simp only [ev, lk, Nat.reduceEqDiff, if_true, if_false]) (fun h => absurd h (by simp)) (fun _ => ?_)
              have hs1 : S1 = putS S y.x := by rw [hs, acS, hfw]; simp [*]
              have hb1 : b1 = (b && badI y.x) := by rw [hb, acN, hfw]; simp [*]
              have rt := rput_v S y.x (by omega)
              have ck := put_own 200 848 (by omega) S y.x (by omega)
              unfold rw3 at ck
              rw [← hs1] at rt ck
              have hitv : itV y.x = .agg [.str y.x.h, .int .i64 y.x.n, .str y.x.k] := rfl
              rw [hitv] at rt ck
              cases b with
              | true =>
                have hS := hnl rfl
                simp only [if_true]
                cases hbad : badI y.x with
                | true =>
                  rw [hbad] at hb1
                  have e4 : S1 = S := by rw [hs1, hS, putS_nil, hbad]; rfl
                  have e5 : putB S y.x = false := by rw [putB, hbad]; rfl
                  have e6 : putE S y.x = 2 := by rw [putE, hbad]; rfl
                  have cp := put_nil_bad y.x hbad
                  rw [hitv] at cp
                  rw [e5, e6] at rt
                  refine W.seqK fun K hK => W.regionK tt_ok ?_
                  simp only [exOps_cons, exOp_eq, exCall_eq, nx_eq, cur_eq, evL, stepQ, ev, lk, putT, erA, inB, opt, bnd, req, ret, onQ, ap, er, ldP, ldE, ldC, ldS, Kd.agg, comps, csize, takeI, takeC, dropC, fldF, true_and, and_self, Nat.reduceEqDiff, Nat.reduceLT, Nat.reduceLeDiff, Nat.reduceAdd, Nat.reduceSub, Nat.sub_self, Nat.le_refl, Nat.zero_add, if_true, if_false, reduceCtorEq, ne_eq, not_false_eq_true, List.getElem?_cons_zero, List.getElem?_cons_succ, Option.bind_some, Option.map_some, tt_24, tt_53]
                  refine CallK.pure _ _ cp call10 (by simp only [AV.nmIn, bnd, req, ret, onQ, AV.isTup, isTupL, true_and, and_self, Bool.false_eq_true, List.append_nil, vw.vwL, vw, AV.free, AV.freeL, Bool.or_self]; all_goals (and_intros <;> first | exact AV.subL_refl _ | omega | (simp [AV.sub]; done) | rfl | (simp [AV.subL_refl]; done) | (simp; exact AV.subL_refl _))) ?_
                  simp only [exOps_nil, exOps_cons, exOp_eq, nx_eq, cur_eq, stepQ, ev, lk, putT, erA, inB, opt, ret, onQ, ap, true_and, Nat.reduceEqDiff, Nat.reduceLT, Nat.reduceAdd, if_true, if_false, List.getElem?_cons_zero, List.getElem?_cons_succ]
                  refine hK _ ?_
                  clear hK K
                  refine W.seqK fun K hK => W.regionK tt_ok ?_
                  simp only [exOps_cons, exOp_eq, exCall_eq, nx_eq, cur_eq, evL, stepQ, ev, lk, putT, erA, inB, opt, bnd, req, ret, onQ, ap, ldP, ldE, ldC, ldS, Kd.agg, comps, csize, takeI, takeC, dropC, fldF, true_and, and_self, Nat.reduceEqDiff, Nat.reduceLT, Nat.reduceLeDiff, Nat.reduceAdd, Nat.reduceSub, Nat.sub_self, Nat.le_refl, Nat.zero_add, if_true, if_false, reduceCtorEq, ne_eq, not_false_eq_true, List.getElem?_cons_zero, List.getElem?_cons_succ, Option.bind_some, Option.map_some, tt_24, tt_53]
                  refine CallK.pure _ _ rt call12 (by simp only [AV.nmIn, bnd, req, ret, onQ, AV.isTup, isTupL, true_and, and_self, Bool.false_eq_true, List.append_nil, vw.vwL, vw, AV.free, AV.freeL, Bool.or_self]; all_goals (and_intros <;> first | exact AV.subL_refl _ | omega | (simp [AV.sub]; done) | rfl | (simp [AV.subL_refl]; done) | (simp; exact AV.subL_refl _))) ?_
                  simp only [exOps_nil, exOps_cons, exOp_eq, nx_eq, cur_eq, stepQ, ev, lk, putT, erA, inB, opt, ret, onQ, ap, true_and, Nat.reduceEqDiff, Nat.reduceLT, Nat.reduceAdd, if_true, if_false, List.getElem?_cons_zero, List.getElem?_cons_succ]
                  refine hK _ ?_
                  clear hK K
                  refine W.seqK fun Kw hKw => ?_
                  refine W.seqK fun K hK => W.regionK tt_ok ?_
                  simp only [Bool.not_true, ↓gFF, ↓nFF, exOps_nil, exOps_cons, exOp_eq, nx_eq, cur_eq, stepQ, ev, lk, putT, erA, inB, opt, bnd, req, ret, onQ, ap, binG, binF, intF, eqOp, pickF, and_true, true_and, and_self, Nat.reduceEqDiff, Nat.reduceLT, Nat.reduceAdd, if_true, if_false, List.getElem?_cons_zero, List.getElem?_cons_succ, Option.bind_some, tt_4, beq_self_eq_true, bne_self_eq_false]
                  refine hK _ ?_
                  clear hK K
                  refine W.cond (b := false) (by simp only [ev, lk, Nat.reduceEqDiff, if_true, if_false]) (fun h => absurd h (by simp)) (fun _ => W.skip ?_)
                  simp only [thn_normal]
                  refine hKw _ ?_
                  refine W.region tt_ok ?_
                  simp only [exOps_nil, exOps_cons, exOp_eq, nx_eq, cur_eq, stepQ, ev, lk, putT, erA, inB, opt, ret, onQ, ap, thn_normal, inb_normal, true_and, Nat.reduceEqDiff, Nat.reduceLT, Nat.reduceAdd, if_true, if_false]
                  refine hKj _ 200 200 ⟨⟨by simp [Nm, lk], by simp [Nm, lk]⟩, by simp, by simp⟩ ?_
                  rw [hb1]
                  simp [St.swap, tmMap, enMap, swp, AV.map, AV.mapL, Ent.map, wk, leL, lk, nmT, nmE, nmH, AV.nmIn]
                | false =>
                  rw [hbad] at hb1
                  have e4 : S1 = [y.x] := by rw [hs1, hS, putS_nil, hbad]; rfl
                  have hf : ¬ 0 ≤ fI (isB y.x) [] := of_decide_eq_false rfl
                  have e5 : putB S y.x = false := by rw [putB, hbad, hS]; rfl
                  have e6 : putE S y.x = 0 := by rw [putE, hbad, hS]; simp only [hf, if_false]; rfl
                  have cp := put_nil_new 848 y.x hbad
                  rw [← e4] at cp
                  rw [hitv] at cp
                  have hl1 : S1.length = 1 := by rw [e4]; rfl
                  unfold rw3 at cp
                  rw [e5, e6] at rt
                  refine W.seqK fun K hK => W.regionK tt_ok ?_
                  simp only [exOps_cons, exOp_eq, exCall_eq, nx_eq, cur_eq, evL, stepQ, ev, lk, putT, erA, inB, opt, bnd, req, ret, onQ, ap, er, ldP, ldE, ldC, ldS, Kd.agg, comps, csize, takeI, takeC, dropC, fldF, true_and, and_self, Nat.reduceEqDiff, Nat.reduceLT, Nat.reduceLeDiff, Nat.reduceAdd, Nat.reduceSub, Nat.sub_self, Nat.le_refl, Nat.zero_add, if_true, if_false, reduceCtorEq, ne_eq, not_false_eq_true, List.getElem?_cons_zero, List.getElem?_cons_succ, Option.bind_some, Option.map_some, tt_24, tt_53]
                  refine CallK.with [] [(848, .vec 33 (.avs 3 (S1.map itV)))] _ _ cp call10 (by simp only [AV.nmIn, bnd, req, ret, onQ, AV.isTup, isTupL, true_and, and_self, Bool.false_eq_true, List.append_nil, vw.vwL, vw, AV.free, AV.freeL, Bool.or_self]; all_goals (and_intros <;> first | exact AV.subL_refl _ | omega | (simp [AV.sub, entsFree, Ent.free, Row.free, free_its]; done) | rfl | (simp [AV.subL_refl]; done))) (by simp [leL]) (by intro n hn; first | (left; revert hn; simp [Nm, lk]; done) | (right; revert hn; simp only [Nm, lk]; split <;> simp <;> omega) | (by_cases h1 : Nm [] n; exact .inl h1; right; revert hn h1; simp only [Nm, lk]; split <;> (try split) <;> (try split) <;> (try split) <;> (try simp) <;> (try omega))) (by simp [entsIn]) ?_
                  simp only [callDel, exOps_nil, exOps_cons, exOp_eq, nx_eq, cur_eq, stepQ, ev, lk, putT, erA, inB, opt, ret, onQ, ap, up, er, true_and, Nat.reduceEqDiff, Nat.reduceLT, Nat.reduceAdd, if_true, if_false, List.getElem?_cons_zero, List.getElem?_cons_succ, List.nil_append, List.map_cons, List.map_nil, List.reverse_cons, List.reverse_nil, List.nil_append]
                  refine hK _ ?_
                  clear hK K
                  refine W.seqK fun K hK => W.regionK tt_ok ?_
                  simp only [exOps_cons, exOp_eq, exCall_eq, nx_eq, cur_eq, evL, stepQ, ev, lk, putT, erA, inB, opt, bnd, req, ret, onQ, ap, ldP, ldE, ldC, ldS, Kd.agg, comps, csize, takeI, takeC, dropC, fldF, true_and, and_self, Nat.reduceEqDiff, Nat.reduceLT, Nat.reduceLeDiff, Nat.reduceAdd, Nat.reduceSub, Nat.sub_self, Nat.le_refl, Nat.zero_add, if_true, if_false, reduceCtorEq, ne_eq, not_false_eq_true, List.getElem?_cons_zero, List.getElem?_cons_succ, Option.bind_some, Option.map_some, tt_24, tt_53]
                  refine CallK.pure _ _ rt call12 (by simp only [AV.nmIn, bnd, req, ret, onQ, AV.isTup, isTupL, true_and, and_self, Bool.false_eq_true, List.append_nil, vw.vwL, vw, AV.free, AV.freeL, Bool.or_self]; all_goals (and_intros <;> first | exact AV.subL_refl _ | omega | (simp [AV.sub]; done) | rfl | (simp [AV.subL_refl]; done) | (simp; exact AV.subL_refl _))) ?_
                  simp only [exOps_nil, exOps_cons, exOp_eq, nx_eq, cur_eq, stepQ, ev, lk, putT, erA, inB, opt, ret, onQ, ap, true_and, Nat.reduceEqDiff, Nat.reduceLT, Nat.reduceAdd, if_true, if_false, List.getElem?_cons_zero, List.getElem?_cons_succ]
                  refine hK _ ?_
                  clear hK K
                  refine W.seqK fun Kw hKw => ?_
                  refine W.seqK fun K hK => W.regionK tt_ok ?_
                  simp only [Bool.not_true, ↓gFF, ↓nFF, exOps_nil, exOps_cons, exOp_eq, nx_eq, cur_eq, stepQ, ev, lk, putT, erA, inB, opt, bnd, req, ret, onQ, ap, binG, binF, intF, eqOp, pickF, and_true, true_and, and_self, Nat.reduceEqDiff, Nat.reduceLT, Nat.reduceAdd, if_true, if_false, List.getElem?_cons_zero, List.getElem?_cons_succ, Option.bind_some, tt_4, beq_self_eq_true, bne_self_eq_false]
                  refine hK _ ?_
                  clear hK K
                  refine W.cond (b := false) (by simp only [ev, lk, Nat.reduceEqDiff, if_true, if_false]) (fun h => absurd h (by simp)) (fun _ => W.skip ?_)
                  simp only [thn_normal]
                  refine hKw _ ?_
                  refine W.region tt_ok ?_
                  simp only [exOps_nil, exOps_cons, exOp_eq, nx_eq, cur_eq, stepQ, ev, lk, putT, erA, inB, opt, ret, onQ, ap, thn_normal, inb_normal, true_and, Nat.reduceEqDiff, Nat.reduceLT, Nat.reduceAdd, if_true, if_false]
                  refine hKj _ 848 200 ⟨⟨by simp [Nm, lk], by simp [Nm, lk]⟩, by simp, by simp⟩ ?_
                  rw [hb1, hl1]
                  simp [St.swap, tmMap, enMap, swp, AV.map, AV.mapL, Ent.map, Row.map, rw3, wk, leL, lk, nmT, nmE, nmH, AV.nmIn, Ent.nmIn, Row.nmIn, nm_its, ml_its]
              | false =>
                rw [Bool.false_and] at hb1
                rw [if_neg (by simp)]
                rw [if_neg (by simp)]
                unfold rw3
                generalize putB S y.x = PB at *
                generalize putE S y.x = PE at *
                refine W.seqK fun K hK => W.regionK tt_ok ?_
                simp only [exOps_cons, exOp_eq, exCall_eq, nx_eq, cur_eq, evL, stepQ, ev, lk, putT, erA, inB, opt, bnd, req, ret, onQ, ap, er, ldP, ldE, ldC, ldS, Kd.agg, comps, csize, takeI, takeC, dropC, fldF, true_and, and_self, Nat.reduceEqDiff, Nat.reduceLT, Nat.reduceLeDiff, Nat.reduceAdd, Nat.reduceSub, Nat.sub_self, Nat.le_refl, Nat.zero_add, if_true, if_false, reduceCtorEq, ne_eq, not_false_eq_true, List.getElem?_cons_zero, List.getElem?_cons_succ, Option.bind_some, Option.map_some, tt_24, tt_53]
                refine CallK.with [(200, .vec 33 (.avs 3 (S.map itV)))] [(848, .vec 33 (.avs 3 (S1.map itV))), (200, .vec 33 (.avs 3 (S.map itV)))] _ _ ck call10 (by simp only [AV.nmIn, lk, bnd, req, ret, onQ, AV.isTup, isTupL, true_and, and_self, if_true, Bool.false_eq_true, List.append_nil, vw.vwL, vw, AV.free, AV.freeL, Bool.or_self]; all_goals (and_intros <;> first | exact AV.subL_refl _ | omega | (simp [AV.sub, entsFree, Ent.free, Row.free, free_its]; done) | rfl | (simp [AV.subL_refl]; done))) (by simp [leL, lk]) (by intro n hn; first | (left; revert hn; simp [Nm, lk]; done) | (right; revert hn; simp only [Nm, lk]; split <;> simp <;> omega) | (by_cases h1 : Nm [(200, .vec 33 (.avs 3 (S.map itV)))] n; exact .inl h1; right; revert hn h1; simp only [Nm, lk]; split <;> (try split) <;> (try split) <;> (try split) <;> (try simp) <;> (try omega))) (by simp [entsIn, Ent.nmIn, Row.nmIn, nm_its]) ?_
                simp only [callDel, exOps_nil, exOps_cons, exOp_eq, nx_eq, cur_eq, stepQ, ev, lk, putT, erA, inB, opt, ret, onQ, ap, up, er, true_and, Nat.reduceEqDiff, Nat.reduceLT, Nat.reduceAdd, if_true, if_false, List.getElem?_cons_zero, List.getElem?_cons_succ, List.nil_append, List.cons_append, List.map_cons, List.map_nil, List.reverse_cons, List.reverse_nil, List.cons_append, List.nil_append]
                refine hK _ ?_
                clear hK K
                refine W.seqK fun K hK => W.regionK tt_ok ?_
                simp only [exOps_cons, exOp_eq, exCall_eq, nx_eq, cur_eq, evL, stepQ, ev, lk, putT, erA, inB, opt, bnd, req, ret, onQ, ap, ldP, ldE, ldC, ldS, Kd.agg, comps, csize, takeI, takeC, dropC, fldF, true_and, and_self, Nat.reduceEqDiff, Nat.reduceLT, Nat.reduceLeDiff, Nat.reduceAdd, Nat.reduceSub, Nat.sub_self, Nat.le_refl, Nat.zero_add, if_true, if_false, reduceCtorEq, ne_eq, not_false_eq_true, List.getElem?_cons_zero, List.getElem?_cons_succ, Option.bind_some, Option.map_some, tt_24, tt_53]
                refine CallK.pure _ _ rt call12 (by simp only [AV.nmIn, bnd, req, ret, onQ, AV.isTup, isTupL, true_and, and_self, Bool.false_eq_true, List.append_nil, vw.vwL, vw, AV.free, AV.freeL, Bool.or_self]; all_goals (and_intros <;> first | exact AV.subL_refl _ | omega | (simp [AV.sub]; done) | rfl | (simp [AV.subL_refl]; done) | (simp; exact AV.subL_refl _))) ?_
                simp only [exOps_nil, exOps_cons, exOp_eq, nx_eq, cur_eq, stepQ, ev, lk, putT, erA, inB, opt, ret, onQ, ap, true_and, Nat.reduceEqDiff, Nat.reduceLT, Nat.reduceAdd, if_true, if_false, List.getElem?_cons_zero, List.getElem?_cons_succ]
                refine hK _ ?_
                clear hK K
                refine W.seqK fun Kw hKw => ?_
                refine W.seqK fun K hK => W.regionK tt_ok ?_
                simp only [Bool.not_true, ↓gFF, ↓nFF, exOps_nil, exOps_cons, exOp_eq, nx_eq, cur_eq, stepQ, ev, lk, putT, erA, inB, opt, bnd, req, ret, onQ, ap, binG, binF, intF, eqOp, pickF, and_true, true_and, and_self, Nat.reduceEqDiff, Nat.reduceLT, Nat.reduceAdd, if_true, if_false, List.getElem?_cons_zero, List.getElem?_cons_succ, Option.bind_some, tt_4, beq_self_eq_true, bne_self_eq_false]
                refine hK _ ?_
                clear hK K
                refine W.cond (b := false) (by simp only [ev, lk, Nat.reduceEqDiff, if_true, if_false]) (fun h => absurd h (by simp)) (fun _ => W.skip ?_)
                simp only [thn_normal]
                refine hKw _ ?_
                refine W.region tt_ok ?_
                simp only [exOps_nil, exOps_cons, exOp_eq, nx_eq, cur_eq, stepQ, ev, lk, putT, erA, inB, opt, ret, onQ, ap, thn_normal, inb_normal, true_and, Nat.reduceEqDiff, Nat.reduceLT, Nat.reduceAdd, if_true, if_false]
                refine hKj _ 848 200 ⟨⟨by simp [Nm, lk], by simp [Nm, lk]⟩, by simp, by simp⟩ ?_
                rw [hb1]
                simp [St.swap, tmMap, enMap, swp, AV.map, AV.mapL, Ent.map, Row.map, rw3, wk, leL, lk, nmT, nmE, nmH, AV.nmIn, Ent.nmIn, Row.nmIn, nm_its, ml_its]
      · clear hs hb hnl hT0 hB0 hle
        have cs := same_fn S1 (by omega)
        refine W.seqK fun Ky hKy => ?_
        have w0 : ¬ ((0 : Int) < ((0 : Nat) : Int)) := by omega
        have w40 : ¬ ((40 : Int) < ((S1.length : Nat) : Int)) := by omega
        have w40' : ¬ ((40 : Int) < ((0 : Nat) : Int)) := by omega
        cases b1 with
        | true =>
          have hS := hnl' rfl
          have co : FnR Try.prog G 18 [.lst 3 []] [] .nils [] := ours_nil
          have cs' : FnR Try.prog G 17 [.lst 3 [], .lst 3 (S1.map itV)] [] (.bool true) [] := by rw [hS] at cs ⊢; exact cs
          simp only [if_true]
          refine W.seqK fun K hK => W.regionK tt_ok ?_
          simp only [exOps_cons, exOp_eq, exCall_eq, nx_eq, cur_eq, evL, stepQ, ev, lk, putT, erA, inB, opt, ret, onQ, ap, true_and, Nat.reduceEqDiff, Nat.reduceLT, Nat.reduceAdd, if_true, if_false, Option.bind_some, Option.map_some]
          refine CallK.pure _ _ co call18 (by simp only [AV.nmIn, bnd, req, ret, onQ, AV.isTup, isTupL, true_and, and_self, Bool.false_eq_true, List.append_nil, vw.vwL, vw, AV.free, Bool.or_self]; all_goals (and_intros <;> first | exact AV.subL_refl _ | omega | (simp [AV.sub]; done) | rfl | (simp [AV.subL_refl]; done) | (simp; exact AV.subL_refl _))) ?_
          simp only [exOps_cons, exOp_eq, exCall_eq, nx_eq, cur_eq, evL, stepQ, ev, lk, putT, erA, inB, opt, ret, onQ, ap, true_and, Nat.reduceEqDiff, Nat.reduceLT, Nat.reduceAdd, if_true, if_false, Option.bind_some, Option.map_some]
          refine CallK.pure _ _ cs' call17 (by simp only [AV.nmIn, bnd, req, ret, onQ, AV.isTup, isTupL, true_and, and_self, Bool.false_eq_true, List.append_nil, vw.vwL, vw, AV.free, Bool.or_self]; all_goals (and_intros <;> first | exact AV.subL_refl _ | omega | (simp [AV.sub]; done) | rfl | (simp [AV.subL_refl]; done) | (simp; exact AV.subL_refl _))) ?_
          simp only [Bool.not_true, ↓gFF, ↓nFF, decide_false, exOps_nil, exOps_cons, exOp_eq, exCall_eq, nx_eq, cur_eq, evL, stepQ, ev, ofV, lk, putT, erA, inB, opt, bnd, req, ret, onQ, ap, binG, binF, intF, unF, pickF, bltQ, bltV, lenF, and_true, true_and, and_self, or_false, Nat.reduceEqDiff, Nat.reduceLT, Nat.reduceAdd, Int.reduceLT, if_true, if_false, List.getElem?_cons_zero, List.getElem?_cons_succ, Option.bind_some, Option.map_some, tt_28]
          refine hK _ ?_
          clear hK K
          refine W.cond (b := false) (by simp only [ev, lk, Nat.reduceEqDiff, if_true, if_false]) (fun h => absurd h (by simp)) (fun _ => W.skip ?_)
          simp only [thn_normal]
          refine hKy _ ?_
          refine W.seqK fun K hK => W.regionK tt_ok ?_
          simp only [exOps_nil, exOps_cons, exOp_eq, exCall_eq, nx_eq, cur_eq, evL, stepQ, ev, ofV, lk, putT, erA, inB, opt, bnd, req, ret, onQ, ap, bltQ, bltV, lenF, true_and, and_self, or_false, Nat.reduceEqDiff, Nat.reduceLT, Nat.reduceAdd, if_true, if_false, List.getElem?_cons_zero, Option.bind_some, Option.map_some, tt_28]
          refine hK _ ?_
          clear hK K
          refine W.blockK ?_
          refine W.rounds 1 (WR.next fun K4 hK4 => ?_)
          refine W.seqK fun K hK => W.regionK tt_ok ?_
          simp only [decide_false, exOps_nil, exOps_cons, exOp_eq, nx_eq, cur_eq, stepQ, ev, lk, putT, erA, inB, opt, bnd, req, ret, onQ, ap, binG, binF, intF, true_and, and_self, Nat.reduceEqDiff, Nat.reduceLT, Nat.reduceAdd, Int.reduceLT, if_true, if_false]
          refine hK _ ?_
          clear hK K
          refine W.seqK fun K hK => W.cond (b := false) (by simp only [ev, lk, Nat.reduceEqDiff, if_true, if_false]) (fun h => absurd h (by simp)) (fun _ => W.exit ?_)
          simp only [thn_normal, thn_exit, inb_normal, inb_exit, Nat.reduceEqDiff, if_true, if_false, reduceCtorEq]
          clear hK K
          refine hK _ ?_
          refine W.region tt_ok ?_
          simp only [exOps_nil, exOps_cons, exOp_eq, nx_eq, cur_eq, stepQ, ev, ofV, lk, putT, erA, inB, opt, bnd, req, ret, onQ, ap, binG, binF, intF, thn_normal, true_and, and_self, Nat.reduceEqDiff, Nat.reduceLT, Nat.reduceAdd, if_true, if_false, wrap_up k (by omega)]
          refine hK3 _ (k + 1) 200 200 (by omega) (by omega) ⟨⟨by simp [Nm, lk], by simp [Nm, lk]⟩, by simp, by simp⟩ ?_
          rw [hT1, hB1]
          simp [St.swap, tmMap, enMap, AV.map, wk, leL, lk, nmT, nmE, nmH, AV.nmIn]
        | false =>
          rw [if_neg (by simp)]
          rw [if_neg (by simp)]
          unfold rw3
          by_cases hS0 : S1.length = 0
          · have hS : S1 = [] := List.length_eq_zero_iff.1 hS0
            have co : FnR Try.prog G 18 [.lst 3 (S1.map itV)] [] .nils [] := by rw [hS]; exact ours_nil
            have cs' : FnR Try.prog G 17 [.lst 3 [], .lst 3 (S1.map itV)] [] (.bool true) [] := by rw [hS] at cs ⊢; exact cs
            refine W.seqK fun K hK => W.regionK tt_ok ?_
            simp only [exOps_cons, exOp_eq, exCall_eq, nx_eq, cur_eq, evL, stepQ, ev, lk, putT, erA, inB, opt, ret, onQ, ap, true_and, Nat.reduceEqDiff, Nat.reduceLT, Nat.reduceAdd, if_true, if_false, Option.bind_some, Option.map_some]
            refine CallK.pure _ _ co call18 (by simp only [Bool.or_false, lk, opt, bnd, req, ret, onQ, AV.isTup, isTupL, Ent.row, and_true, true_and, and_self, Nat.zero_add, if_true, forall_const, List.append_nil, viewEL_its, vw.vwL, vw, viewL, AV.free, Ent.row, Bool.or_self]; all_goals (and_intros <;> first | exact AV.subL_refl _ | omega | (simp [AV.sub]; done) | rfl | (simp [AV.subL_refl]; done) | (simp; exact AV.subL_refl _))) ?_
            simp only [exOps_cons, exOp_eq, exCall_eq, nx_eq, cur_eq, evL, stepQ, ev, lk, putT, erA, inB, opt, ret, onQ, ap, true_and, Nat.reduceEqDiff, Nat.reduceLT, Nat.reduceAdd, if_true, if_false, Option.bind_some, Option.map_some]
            refine CallK.pure _ _ cs' call17 (by simp only [AV.nmIn, bnd, req, ret, onQ, AV.isTup, isTupL, true_and, and_self, Bool.false_eq_true, List.append_nil, vw.vwL, vw, AV.free, Bool.or_self]; all_goals (and_intros <;> first | exact AV.subL_refl _ | omega | (simp [AV.sub]; done) | rfl | (simp [AV.subL_refl]; done) | (simp; exact AV.subL_refl _))) ?_
            simp only [Bool.not_true, ↓gFF, ↓nFF, decide_false, exOps_nil, exOps_cons, exOp_eq, exCall_eq, nx_eq, cur_eq, evL, stepQ, ev, ofV, lk, putT, erA, inB, opt, bnd, req, ret, onQ, ap, binG, binF, intF, unF, pickF, bltQ, bltV, lenF, and_true, true_and, and_self, or_false, Nat.reduceEqDiff, Nat.reduceLT, Nat.reduceAdd, if_true, if_false, List.getElem?_cons_zero, List.getElem?_cons_succ, Option.bind_some, Option.map_some, tt_28, w40]
            refine hK _ ?_
            clear hK K
            refine W.cond (b := false) (by simp only [ev, lk, Nat.reduceEqDiff, if_true, if_false]) (fun h => absurd h (by simp)) (fun _ => W.skip ?_)
            simp only [thn_normal]
            refine hKy _ ?_
            refine W.seqK fun K hK => W.regionK tt_ok ?_
            simp only [exOps_nil, exOps_cons, exOp_eq, exCall_eq, nx_eq, cur_eq, evL, stepQ, ev, ofV, lk, putT, erA, inB, opt, bnd, req, ret, onQ, ap, bltQ, bltV, lenF, true_and, and_self, or_false, Nat.reduceEqDiff, Nat.reduceLT, Nat.reduceAdd, if_true, if_false, List.getElem?_cons_zero, Option.bind_some, Option.map_some, tt_28]
            refine hK _ ?_
            clear hK K
            refine W.blockK ?_
            have hmlS : (S1.map itV).length = S1.length := List.length_map ..
            refine W.loopK (fun i : Nat => i ≤ S1.length) (fun i => ⟨[(3, .sl 200 3 0 S1.length), (4, .lst 3 (S1.map itV)), (35, .lst 4 (l.map acV)), (36, .int .i64 (l.length : Nat)), (37, .int .i64 (k : Int)), (141, .sl 200 3 0 S1.length), (142, .int .i64 (S1.length : Nat)), (143, .int .i64 (i : Int))], [(200, .vec 33 (.avs 3 (S1.map itV)))], 800, 171⟩) (fun i => S1.length - i) 0 (by simp) (by simp [wk, leL, lk, nmT, nmE, nmH, AV.nmIn, Ent.nmIn, Row.nmIn, nm_its]) ?_
            intro i hi K4 hK4
            by_cases hilt : i < S1.length
            · have c2 : (i : Int) < (S1.length : Nat) := by omega
              have hei := it_get S1 i hilt
              have hun := fun j hj => @uni_get S1 huni i j hilt hj
              generalize S1[i] = u at *
              refine W.seqK fun K hK => W.regionK tt_ok ?_
              simp only [decide_true, exOps_nil, exOps_cons, exOp_eq, nx_eq, cur_eq, stepQ, ev, lk, putT, erA, inB, opt, bnd, req, ret, onQ, ap, binG, binF, intF, true_and, and_self, Nat.reduceEqDiff, Nat.reduceLT, Nat.reduceAdd, if_true, if_false, c2]
              refine hK _ ?_
              clear hK K
              refine W.seqK fun K hK => W.cond (b := true) (by simp only [ev, lk, Nat.reduceEqDiff, if_true, if_false]) (fun _ => W.skip ?_) (fun h => absurd h (by simp))
              rw [thn_normal]
              refine hK _ ?_
              clear hK K
              refine W.seqK fun K hK => W.blockK ?_
              refine W.seqK fun K hK => W.regionK tt_ok ?_
              simp only [exOps_nil, exOps_cons, exOp_eq, nx_eq, cur_eq, stepQ, ev, lk, putT, erA, inB, opt, bnd, req, ret, onQ, ap, up, er, AV.isTup, AV.isAgg, Kd.elem, ixA, asI, ldP, ldE, ldC, ldS, Kd.agg, comps, szL, csize, takeI, takeC, dropC, stP, stE, stC, stS, and_true, true_and, and_self, Nat.reduceEqDiff, Nat.reduceLT, Nat.reduceLeDiff, Nat.reduceAdd, Nat.reduceSub, Nat.sub_self, Int.toNat_natCast, Nat.le_refl, Nat.add_zero, Nat.zero_add, if_true, if_false, reduceCtorEq, Option.bind_some, Option.map_some, List.append_nil, List.nil_append, tt_28, tt_33, hei, hmlS, Int.toNat_natCast]
              repeat (refine ⟨by omega, ?_⟩)
              refine hK _ ?_
              clear hK K
              refine W.seqK fun K hK => W.regionK tt_ok ?_
              simp only [exOps_nil, exOps_cons, exOp_eq, exCall_eq, nx_eq, cur_eq, evL, stepQ, ev, ofV, lk, putT, erA, inB, opt, bnd, req, ret, onQ, ap, bltQ, bltV, lenF, slF, bd, bds, and_true, true_and, and_self, or_false, Nat.reduceEqDiff, Nat.reduceLT, Nat.reduceAdd, Int.toNat_natCast, Nat.add_zero, if_true, if_false, List.getElem?_cons_zero, Option.bind_some, Option.map_some, tt_28, tt_33, Nat.sub_zero]
              refine ⟨by omega, ?_⟩
              refine hK _ ?_
              clear hK K
              refine W.blockK ?_
              refine W.loopK (fun j : Nat => j ≤ i) (fun j => ⟨[(3, .sl 200 3 0 S1.length), (4, .lst 3 (S1.map itV)), (35, .lst 4 (l.map acV)), (36, .int .i64 (l.length : Nat)), (37, .int .i64 (k : Int)), (141, .sl 200 3 0 S1.length), (142, .int .i64 (S1.length : Nat)), (143, .int .i64 (i : Int)), (24, .ptr 864 0 0 1), (150, .sl 200 3 0 i), (151, .int .i64 (i : Nat)), (152, .int .i64 (j : Int))], [(200, .vec 33 (.avs 3 (S1.map itV))), (864, .obj 33 (.agg [.str u.h, .int .i64 u.n, .str u.k]))], 1200, 171⟩) (fun j => i - j) 0 (by simp) (by simp [wk, leL, lk, nmT, nmE, nmH, AV.nmIn, AV.nmInL, Ent.nmIn, Row.nmIn, nm_its]) ?_
              intro j hj K5 hK5
              by_cases hjt : j < i
              · have c3 : (j : Int) < (i : Nat) := by omega
                have hej := it_get S1 j (by omega)
                have hun := hun j hjt
                generalize S1[j] = v at *
                refine W.seqK fun K hK => W.regionK tt_ok ?_
                simp only [decide_true, exOps_nil, exOps_cons, exOp_eq, nx_eq, cur_eq, stepQ, ev, lk, putT, erA, inB, opt, bnd, req, ret, onQ, ap, binG, binF, intF, true_and, and_self, Nat.reduceEqDiff, Nat.reduceLT, Nat.reduceAdd, if_true, if_false, c3]
                refine hK _ ?_
                clear hK K
                refine W.seqK fun K hK => W.cond (b := true) (by simp only [ev, lk, Nat.reduceEqDiff, if_true, if_false]) (fun _ => W.skip ?_) (fun h => absurd h (by simp))
                rw [thn_normal]
                refine hK _ ?_
                clear hK K
                refine W.seqK fun K hK => W.blockK ?_
                refine W.seqK fun K hK => W.regionK tt_ok ?_
                simp only [exOps_nil, exOps_cons, exOp_eq, nx_eq, cur_eq, stepQ, ev, lk, putT, erA, inB, opt, bnd, req, ret, onQ, ap, up, er, AV.isTup, AV.isAgg, Kd.elem, ixA, asI, ldP, ldE, ldC, ldS, Kd.agg, comps, szL, csize, takeI, takeC, dropC, stP, stE, stC, stS, and_true, true_and, and_self, Nat.reduceEqDiff, Nat.reduceLT, Nat.reduceLeDiff, Nat.reduceAdd, Nat.reduceSub, Nat.sub_self, Int.toNat_natCast, Nat.le_refl, Nat.add_zero, Nat.zero_add, if_true, if_false, reduceCtorEq, Option.bind_some, Option.map_some, List.append_nil, List.nil_append, tt_28, tt_33, hej, hmlS, Int.toNat_natCast]
                repeat (refine ⟨by omega, ?_⟩)
                refine hK _ ?_
                clear hK K
                rw [isB, sEq] at hun
                cases hh : (u.h.toList == v.h.toList) with
                | true =>
                  rw [hh, Bool.true_and] at hun
                  refine W.seqK fun K hK => W.regionK tt_ok ?_
                  simp only [↓gTT, ↓nTT, exOps_nil, exOps_cons, exOp_eq, nx_eq, cur_eq, stepQ, ev, lk, putT, erA, inB, opt, bnd, req, ret, onQ, ap, binG, binF, intF, strF, pickF, ldP, ldE, ldC, ldS, Kd.agg, comps, csize, takeI, takeC, dropC, fldF, and_true, true_and, and_self, Nat.reduceEqDiff, Nat.reduceLT, Nat.reduceLeDiff, Nat.reduceAdd, Nat.reduceSub, Nat.sub_self, Nat.le_refl, Nat.add_zero, Nat.zero_add, if_true, if_false, Bool.false_eq_true, reduceCtorEq, ne_eq, not_false_eq_true, List.getElem?_cons_zero, List.getElem?_cons_succ, Option.bind_some, Option.map_some, tt_3, tt_9, tt_33, hh, hun]
                  refine hK _ ?_
                  clear hK K
                  refine W.cond (b := false) (by simp only [ev, lk, Nat.reduceEqDiff, if_true, if_false]) (fun h => absurd h (by simp)) (fun _ => W.skip ?_)
                  simp only [thn_normal, inb_normal]
                  refine hK _ ?_
                  refine W.region tt_ok ?_
                  simp only [exOps_nil, exOps_cons, exOp_eq, nx_eq, cur_eq, stepQ, ev, ofV, lk, putT, erA, inB, opt, bnd, req, ret, onQ, ap, binG, binF, intF, thn_normal, true_and, and_self, Nat.reduceEqDiff, Nat.reduceLT, Nat.reduceAdd, if_true, if_false, wrap_up j (by omega)]
                  refine hK5 _ (j + 1) (by omega) (by omega) ?_
                  simp [wk, leL, lk, nmT, nmE, nmH, AV.nmIn, AV.nmInL, Ent.nmIn, Row.nmIn, nm_its]
                | false =>
                  refine W.seqK fun K hK => W.regionK tt_ok ?_
                  simp only [↓gFT, ↓nFT, exOps_nil, exOps_cons, exOp_eq, nx_eq, cur_eq, stepQ, ev, ofV, lk, putT, erA, inB, opt, bnd, req, ret, onQ, ap, binG, binF, strF, pickF, ldP, ldE, ldC, ldS, Kd.agg, comps, csize, takeI, takeC, dropC, fldF, true_and, and_self, Nat.reduceEqDiff, Nat.reduceLT, Nat.reduceLeDiff, Nat.reduceAdd, Nat.reduceSub, Nat.sub_self, Nat.le_refl, Nat.add_zero, if_true, if_false, Bool.false_eq_true, reduceCtorEq, ne_eq, not_false_eq_true, List.getElem?_cons_zero, List.getElem?_cons_succ, Option.bind_some, Option.map_some, tt_9, tt_33, hh]
                  refine hK _ ?_
                  clear hK K
                  refine W.cond (b := false) (by simp only [ev, lk, Nat.reduceEqDiff, if_true, if_false]) (fun h => absurd h (by simp)) (fun _ => W.skip ?_)
                  simp only [thn_normal, inb_normal]
                  refine hK _ ?_
                  refine W.region tt_ok ?_
                  simp only [exOps_nil, exOps_cons, exOp_eq, nx_eq, cur_eq, stepQ, ev, ofV, lk, putT, erA, inB, opt, bnd, req, ret, onQ, ap, binG, binF, intF, thn_normal, true_and, and_self, Nat.reduceEqDiff, Nat.reduceLT, Nat.reduceAdd, if_true, if_false, wrap_up j (by omega)]
                  refine hK5 _ (j + 1) (by omega) (by omega) ?_
                  simp [wk, leL, lk, nmT, nmE, nmH, AV.nmIn, AV.nmInL, Ent.nmIn, Row.nmIn, nm_its]
              have hj' : j = i := by omega
              subst hj'
              have c3 : ¬ ((j : Nat) : Int) < (j : Nat) := by omega
              refine W.seqK fun K hK => W.regionK tt_ok ?_
              simp only [decide_false, exOps_nil, exOps_cons, exOp_eq, nx_eq, cur_eq, stepQ, ev, lk, putT, erA, inB, opt, bnd, req, ret, onQ, ap, binG, binF, intF, true_and, and_self, Nat.reduceEqDiff, Nat.reduceLT, Nat.reduceAdd, if_true, if_false, c3]
              refine hK _ ?_
              clear hK K
              refine W.seqK fun K hK => W.cond (b := false) (by simp only [ev, lk, Nat.reduceEqDiff, if_true, if_false]) (fun h => absurd h (by simp)) (fun _ => W.exit ?_)
              simp only [thn_normal, thn_exit, inb_normal, inb_exit, Nat.reduceEqDiff, if_true, if_false, reduceCtorEq]
              clear hK K
              refine hK _ ?_
              refine W.region tt_ok ?_
              simp only [exOps_nil, exOps_cons, exOp_eq, nx_eq, cur_eq, stepQ, ev, ofV, lk, putT, erA, inB, opt, bnd, req, ret, onQ, ap, binG, binF, intF, thn_normal, true_and, and_self, Nat.reduceEqDiff, Nat.reduceLT, Nat.reduceAdd, if_true, if_false, wrap_up j (by omega)]
              refine hK4 _ (j + 1) (by omega) (by omega) ?_
              simp [wk, leL, lk, nmT, nmE, nmH, AV.nmIn, Ent.nmIn, Row.nmIn, nm_its]
            have hi' : i = S1.length := by omega
            subst hi'
            have c2 : ¬ ((S1.length : Nat) : Int) < (S1.length : Nat) := by omega
            refine W.seqK fun K hK => W.regionK tt_ok ?_
            simp only [decide_false, exOps_nil, exOps_cons, exOp_eq, nx_eq, cur_eq, stepQ, ev, lk, putT, erA, inB, opt, bnd, req, ret, onQ, ap, binG, binF, intF, true_and, and_self, Nat.reduceEqDiff, Nat.reduceLT, Nat.reduceAdd, if_true, if_false, c2]
            refine hK _ ?_
            clear hK K
            refine W.seqK fun K hK => W.cond (b := false) (by simp only [ev, lk, Nat.reduceEqDiff, if_true, if_false]) (fun h => absurd h (by simp)) (fun _ => W.exit ?_)
            simp only [thn_normal, thn_exit, inb_normal, inb_exit, Nat.reduceEqDiff, if_true, if_false, reduceCtorEq]
            clear hK K
            refine hK _ ?_
            refine W.region tt_ok ?_
            simp only [exOps_nil, exOps_cons, exOp_eq, nx_eq, cur_eq, stepQ, ev, ofV, lk, putT, erA, inB, opt, bnd, req, ret, onQ, ap, binG, binF, intF, thn_normal, true_and, and_self, Nat.reduceEqDiff, Nat.reduceLT, Nat.reduceAdd, if_true, if_false, wrap_up k (by omega)]
            refine hK3 _ (k + 1) 200 200 (by omega) (by omega) ⟨⟨by simp [Nm, lk], by simp [Nm, lk]⟩, by simp, by simp⟩ ?_
            rw [hT1, hB1]
            simp [St.swap, tmMap, enMap, swp, AV.map, Ent.map, Row.map, rw3, wk, leL, lk, nmT, nmE, nmH, AV.nmIn, Ent.nmIn, Row.nmIn, nm_its, ml_its]
          · have co := ours_own 528 S1 (by omega) hS0
            unfold rw2 at co
            refine W.seqK fun K hK => W.regionK tt_ok ?_
            simp only [exOps_cons, exOp_eq, exCall_eq, nx_eq, cur_eq, evL, stepQ, ev, lk, putT, erA, inB, opt, ret, onQ, ap, true_and, Nat.reduceEqDiff, Nat.reduceLT, Nat.reduceAdd, if_true, if_false, Option.bind_some, Option.map_some]
            refine CallK.with [] [(528, .vec 24 (.avs 3 (S1.map itV)))] _ _ co call18 (by simp only [Bool.or_false, lk, opt, bnd, req, ret, onQ, AV.isTup, isTupL, Ent.row, and_true, true_and, and_self, Nat.zero_add, if_true, forall_const, List.append_nil, viewEL_its, vw.vwL, vw, viewL, AV.free, Ent.row, Bool.or_self]; all_goals (and_intros <;> first | exact AV.subL_refl _ | omega | (simp [AV.sub, entsFree, Ent.free, Row.free, free_its]; done) | rfl | (simp [AV.subL_refl]; done))) (by simp [leL]) (by intro n hn; first | (left; revert hn; simp [Nm, lk]; done) | (right; revert hn; simp only [Nm, lk]; split <;> simp <;> omega) | (by_cases h1 : Nm [] n; exact .inl h1; right; revert hn h1; simp only [Nm, lk]; split <;> (try split) <;> (try split) <;> (try split) <;> (try simp) <;> (try omega))) (by simp [entsIn]) ?_
            simp only [callDel, exOps_cons, exOp_eq, exCall_eq, nx_eq, cur_eq, evL, stepQ, ev, lk, putT, erA, inB, opt, ret, onQ, ap, up, er, true_and, Nat.reduceEqDiff, Nat.reduceLT, Nat.reduceAdd, if_true, if_false, Option.bind_some, Option.map_some, List.nil_append, List.map_cons, List.map_nil, List.reverse_cons, List.reverse_nil]
            refine CallK.pure _ _ cs call17 (by simp only [Bool.or_false, AV.nmIn, lk, opt, bnd, req, ret, onQ, AV.isTup, isTupL, Ent.row, and_true, true_and, and_self, Nat.reduceEqDiff, Nat.zero_add, if_true, if_false, forall_const, List.append_nil, viewEL_its, vw.vwL, vw, viewL, AV.free, Ent.row, Bool.or_self]; all_goals (and_intros <;> first | exact AV.subL_refl _ | omega | (simp [AV.sub]; done) | rfl | (simp [AV.subL_refl]; done) | (simp; exact AV.subL_refl _))) ?_
            simp only [Bool.not_true, ↓gFF, ↓nFF, decide_false, exOps_nil, exOps_cons, exOp_eq, exCall_eq, nx_eq, cur_eq, evL, stepQ, ev, ofV, lk, putT, erA, inB, opt, bnd, req, ret, onQ, ap, binG, binF, intF, unF, pickF, bltQ, bltV, lenF, and_true, true_and, and_self, or_false, Nat.reduceEqDiff, Nat.reduceLT, Nat.reduceAdd, if_true, if_false, List.getElem?_cons_zero, List.getElem?_cons_succ, Option.bind_some, Option.map_some, tt_28, w40]
            refine hK _ ?_
            clear hK K
            refine W.cond (b := false) (by simp only [ev, lk, Nat.reduceEqDiff, if_true, if_false]) (fun h => absurd h (by simp)) (fun _ => W.skip ?_)
            simp only [thn_normal]
            refine hKy _ ?_
            refine W.seqK fun K hK => W.regionK tt_ok ?_
            simp only [exOps_nil, exOps_cons, exOp_eq, exCall_eq, nx_eq, cur_eq, evL, stepQ, ev, ofV, lk, putT, erA, inB, opt, bnd, req, ret, onQ, ap, bltQ, bltV, lenF, true_and, and_self, or_false, Nat.reduceEqDiff, Nat.reduceLT, Nat.reduceAdd, if_true, if_false, List.getElem?_cons_zero, Option.bind_some, Option.map_some, tt_28]
            refine hK _ ?_
            clear hK K
            refine W.blockK ?_
            have hmlS : (S1.map itV).length = S1.length := List.length_map ..
            refine W.loopK (fun i : Nat => i ≤ S1.length) (fun i => ⟨[(3, .sl 200 3 0 S1.length), (4, .lst 3 (S1.map itV)), (35, .lst 4 (l.map acV)), (36, .int .i64 (l.length : Nat)), (37, .int .i64 (k : Int)), (141, .sl 200 3 0 S1.length), (142, .int .i64 (S1.length : Nat)), (143, .int .i64 (i : Int))], [(200, .vec 33 (.avs 3 (S1.map itV)))], 800, 171⟩) (fun i => S1.length - i) 0 (by simp) (by simp [wk, leL, lk, nmT, nmE, nmH, AV.nmIn, Ent.nmIn, Row.nmIn, nm_its]) ?_
            intro i hi K4 hK4
            by_cases hilt : i < S1.length
            · have c2 : (i : Int) < (S1.length : Nat) := by omega
              have hei := it_get S1 i hilt
              have hun := fun j hj => @uni_get S1 huni i j hilt hj
              generalize S1[i] = u at *
              refine W.seqK fun K hK => W.regionK tt_ok ?_
              simp only [decide_true, exOps_nil, exOps_cons, exOp_eq, nx_eq, cur_eq, stepQ, ev, lk, putT, erA, inB, opt, bnd, req, ret, onQ, ap, binG, binF, intF, true_and, and_self, Nat.reduceEqDiff, Nat.reduceLT, Nat.reduceAdd, if_true, if_false, c2]
              refine hK _ ?_
              clear hK K
              refine W.seqK fun K hK => W.cond (b := true) (by simp only [ev, lk, Nat.reduceEqDiff, if_true, if_false]) (fun _ => W.skip ?_) (fun h => absurd h (by simp))
              rw [thn_normal]
              refine hK _ ?_
              clear hK K
              refine W.seqK fun K hK => W.blockK ?_
              refine W.seqK fun K hK => W.regionK tt_ok ?_
              simp only [exOps_nil, exOps_cons, exOp_eq, nx_eq, cur_eq, stepQ, ev, lk, putT, erA, inB, opt, bnd, req, ret, onQ, ap, up, er, AV.isTup, AV.isAgg, Kd.elem, ixA, asI, ldP, ldE, ldC, ldS, Kd.agg, comps, szL, csize, takeI, takeC, dropC, stP, stE, stC, stS, and_true, true_and, and_self, Nat.reduceEqDiff, Nat.reduceLT, Nat.reduceLeDiff, Nat.reduceAdd, Nat.reduceSub, Nat.sub_self, Int.toNat_natCast, Nat.le_refl, Nat.add_zero, Nat.zero_add, if_true, if_false, reduceCtorEq, Option.bind_some, Option.map_some, List.append_nil, List.nil_append, tt_28, tt_33, hei, hmlS, Int.toNat_natCast]
              repeat (refine ⟨by omega, ?_⟩)
              refine hK _ ?_
              clear hK K
              refine W.seqK fun K hK => W.regionK tt_ok ?_
              simp only [exOps_nil, exOps_cons, exOp_eq, exCall_eq, nx_eq, cur_eq, evL, stepQ, ev, ofV, lk, putT, erA, inB, opt, bnd, req, ret, onQ, ap, bltQ, bltV, lenF, slF, bd, bds, and_true, true_and, and_self, or_false, Nat.reduceEqDiff, Nat.reduceLT, Nat.reduceAdd, Int.toNat_natCast, Nat.add_zero, if_true, if_false, List.getElem?_cons_zero, Option.bind_some, Option.map_some, tt_28, tt_33, Nat.sub_zero]
              refine ⟨by omega, ?_⟩
              refine hK _ ?_
              clear hK K
              refine W.blockK ?_
              refine W.loopK (fun j : Nat => j ≤ i) (fun j => ⟨[(3, .sl 200 3 0 S1.length), (4, .lst 3 (S1.map itV)), (35, .lst 4 (l.map acV)), (36, .int .i64 (l.length : Nat)), (37, .int .i64 (k : Int)), (141, .sl 200 3 0 S1.length), (142, .int .i64 (S1.length : Nat)), (143, .int .i64 (i : Int)), (24, .ptr 864 0 0 1), (150, .sl 200 3 0 i), (151, .int .i64 (i : Nat)), (152, .int .i64 (j : Int))], [(200, .vec 33 (.avs 3 (S1.map itV))), (864, .obj 33 (.agg [.str u.h, .int .i64 u.n, .str u.k]))], 1200, 171⟩) (fun j => i - j) 0 (by simp) (by simp [wk, leL, lk, nmT, nmE, nmH, AV.nmIn, AV.nmInL, Ent.nmIn, Row.nmIn, nm_its]) ?_
              intro j hj K5 hK5
              by_cases hjt : j < i
              · have c3 : (j : Int) < (i : Nat) := by omega
                have hej := it_get S1 j (by omega)
                have hun := hun j hjt
                generalize S1[j] = v at *
                refine W.seqK fun K hK => W.regionK tt_ok ?_
                simp only [decide_true, exOps_nil, exOps_cons, exOp_eq, nx_eq, cur_eq, stepQ, ev, lk, putT, erA, inB, opt, bnd, req, ret, onQ, ap, binG, binF, intF, true_and, and_self, Nat.reduceEqDiff, Nat.reduceLT, Nat.reduceAdd, if_true, if_false, c3]
                refine hK _ ?_
                clear hK K
                refine W.seqK fun K hK => W.cond (b := true) (by simp only [ev, lk, Nat.reduceEqDiff, if_true, if_false]) (fun _ => W.skip ?_) (fun h => absurd h (by simp))
                rw [thn_normal]
                refine hK _ ?_
                clear hK K
                refine W.seqK fun K hK => W.blockK ?_
                refine W.seqK fun K hK => W.regionK tt_ok ?_
                simp only [exOps_nil, exOps_cons, exOp_eq, nx_eq, cur_eq, stepQ, ev, lk, putT, erA, inB, opt, bnd, req, ret, onQ, ap, up, er, AV.isTup, AV.isAgg, Kd.elem, ixA, asI, ldP, ldE, ldC, ldS, Kd.agg, comps, szL, csize, takeI, takeC, dropC, stP, stE, stC, stS, and_true, true_and, and_self, Nat.reduceEqDiff, Nat.reduceLT, Nat.reduceLeDiff, Nat.reduceAdd, Nat.reduceSub, Nat.sub_self, Int.toNat_natCast, Nat.le_refl, Nat.add_zero, Nat.zero_add, if_true, if_false, reduceCtorEq, Option.bind_some, Option.map_some, List.append_nil, List.nil_append, tt_28, tt_33, hej, hmlS, Int.toNat_natCast]
                repeat (refine ⟨by omega, ?_⟩)
                refine hK _ ?_
                clear hK K
                rw [isB, sEq] at hun
                cases hh : (u.h.toList == v.h.toList) with
                | true =>
                  rw [hh, Bool.true_and] at hun
                  refine W.seqK fun K hK => W.regionK tt_ok ?_
                  simp only [↓gTT, ↓nTT, exOps_nil, exOps_cons, exOp_eq, nx_eq, cur_eq, stepQ, ev, lk, putT, erA, inB, opt, bnd, req, ret, onQ, ap, binG, binF, intF, strF, pickF, ldP, ldE, ldC, ldS, Kd.agg, comps, csize, takeI, takeC, dropC, fldF, and_true, true_and, and_self, Nat.reduceEqDiff, Nat.reduceLT, Nat.reduceLeDiff, Nat.reduceAdd, Nat.reduceSub, Nat.sub_self, Nat.le_refl, Nat.add_zero, Nat.zero_add, if_true, if_false, Bool.false_eq_true, reduceCtorEq, ne_eq, not_false_eq_true, List.getElem?_cons_zero, List.getElem?_cons_succ, Option.bind_some, Option.map_some, tt_3, tt_9, tt_33, hh, hun]
                  refine hK _ ?_
                  clear hK K
                  refine W.cond (b := false) (by simp only [ev, lk, Nat.reduceEqDiff, if_true, if_false]) (fun h => absurd h (by simp)) (fun _ => W.skip ?_)
                  simp only [thn_normal, inb_normal]
                  refine hK _ ?_
                  refine W.region tt_ok ?_
                  simp only [exOps_nil, exOps_cons, exOp_eq, nx_eq, cur_eq, stepQ, ev, ofV, lk, putT, erA, inB, opt, bnd, req, ret, onQ, ap, binG, binF, intF, thn_normal, true_and, and_self, Nat.reduceEqDiff, Nat.reduceLT, Nat.reduceAdd, if_true, if_false, wrap_up j (by omega)]
                  refine hK5 _ (j + 1) (by omega) (by omega) ?_
                  simp [wk, leL, lk, nmT, nmE, nmH, AV.nmIn, AV.nmInL, Ent.nmIn, Row.nmIn, nm_its]
                | false =>
                  refine W.seqK fun K hK => W.regionK tt_ok ?_
                  simp only [↓gFT, ↓nFT, exOps_nil, exOps_cons, exOp_eq, nx_eq, cur_eq, stepQ, ev, ofV, lk, putT, erA, inB, opt, bnd, req, ret, onQ, ap, binG, binF, strF, pickF, ldP, ldE, ldC, ldS, Kd.agg, comps, csize, takeI, takeC, dropC, fldF, true_and, and_self, Nat.reduceEqDiff, Nat.reduceLT, Nat.reduceLeDiff, Nat.reduceAdd, Nat.reduceSub, Nat.sub_self, Nat.le_refl, Nat.add_zero, if_true, if_false, Bool.false_eq_true, reduceCtorEq, ne_eq, not_false_eq_true, List.getElem?_cons_zero, List.getElem?_cons_succ, Option.bind_some, Option.map_some, tt_9, tt_33, hh]
                  refine hK _ ?_
                  clear hK K
                  refine W.cond (b := false) (by simp only [ev, lk, Nat.reduceEqDiff, if_true, if_false]) (fun h => absurd h (by simp)) (fun _ => W.skip ?_)
                  simp only [thn_normal, inb_normal]
                  refine hK _ ?_
                  refine W.region tt_ok ?_
                  simp only [exOps_nil, exOps_cons, exOp_eq, nx_eq, cur_eq, stepQ, ev, ofV, lk, putT, erA, inB, opt, bnd, req, ret, onQ, ap, binG, binF, intF, thn_normal, true_and, and_self, Nat.reduceEqDiff, Nat.reduceLT, Nat.reduceAdd, if_true, if_false, wrap_up j (by omega)]
                  refine hK5 _ (j + 1) (by omega) (by omega) ?_
                  simp [wk, leL, lk, nmT, nmE, nmH, AV.nmIn, AV.nmInL, Ent.nmIn, Row.nmIn, nm_its]
              have hj' : j = i := by omega
              subst hj'
              have c3 : ¬ ((j : Nat) : Int) < (j : Nat) := by omega
              refine W.seqK fun K hK => W.regionK tt_ok ?_
              simp only [decide_false, exOps_nil, exOps_cons, exOp_eq, nx_eq, cur_eq, stepQ, ev, lk, putT, erA, inB, opt, bnd, req, ret, onQ, ap, binG, binF, intF, true_and, and_self, Nat.reduceEqDiff, Nat.reduceLT, Nat.reduceAdd, if_true, if_false, c3]
              refine hK _ ?_
              clear hK K
              refine W.seqK fun K hK => W.cond (b := false) (by simp only [ev, lk, Nat.reduceEqDiff, if_true, if_false]) (fun h => absurd h (by simp)) (fun _ => W.exit ?_)
              simp only [thn_normal, thn_exit, inb_normal, inb_exit, Nat.reduceEqDiff, if_true, if_false, reduceCtorEq]
              clear hK K
              refine hK _ ?_
              refine W.region tt_ok ?_
              simp only [exOps_nil, exOps_cons, exOp_eq, nx_eq, cur_eq, stepQ, ev, ofV, lk, putT, erA, inB, opt, bnd, req, ret, onQ, ap, binG, binF, intF, thn_normal, true_and, and_self, Nat.reduceEqDiff, Nat.reduceLT, Nat.reduceAdd, if_true, if_false, wrap_up j (by omega)]
              refine hK4 _ (j + 1) (by omega) (by omega) ?_
              simp [wk, leL, lk, nmT, nmE, nmH, AV.nmIn, Ent.nmIn, Row.nmIn, nm_its]
            have hi' : i = S1.length := by omega
            subst hi'
            have c2 : ¬ ((S1.length : Nat) : Int) < (S1.length : Nat) := by omega
            refine W.seqK fun K hK => W.regionK tt_ok ?_
            simp only [decide_false, exOps_nil, exOps_cons, exOp_eq, nx_eq, cur_eq, stepQ, ev, lk, putT, erA, inB, opt, bnd, req, ret, onQ, ap, binG, binF, intF, true_and, and_self, Nat.reduceEqDiff, Nat.reduceLT, Nat.reduceAdd, if_true, if_false, c2]
            refine hK _ ?_
            clear hK K
            refine W.seqK fun K hK => W.cond (b := false) (by simp only [ev, lk, Nat.reduceEqDiff, if_true, if_false]) (fun h => absurd h (by simp)) (fun _ => W.exit ?_)
            simp only [thn_normal, thn_exit, inb_normal, inb_exit, Nat.reduceEqDiff, if_true, if_false, reduceCtorEq]
            clear hK K
            refine hK _ ?_
            refine W.region tt_ok ?_
            simp only [exOps_nil, exOps_cons, exOp_eq, nx_eq, cur_eq, stepQ, ev, ofV, lk, putT, erA, inB, opt, bnd, req, ret, onQ, ap, binG, binF, intF, thn_normal, true_and, and_self, Nat.reduceEqDiff, Nat.reduceLT, Nat.reduceAdd, if_true, if_false, wrap_up k (by omega)]
            refine hK3 _ (k + 1) 200 200 (by omega) (by omega) ⟨⟨by simp [Nm, lk], by simp [Nm, lk]⟩, by simp, by simp⟩ ?_
            rw [hT1, hB1]
            simp [St.swap, tmMap, enMap, swp, AV.map, Ent.map, Row.map, rw3, wk, leL, lk, nmT, nmE, nmH, AV.nmIn, Ent.nmIn, Row.nmIn, nm_its, ml_its]
  have hk' : k = l.length := by omega
  have c1 : ¬ (k : Int) < (l.length : Nat) := by omega
  refine W.seqK fun K hK => W.regionK tt_ok ?_
  simp only [decide_false, exOps_nil, exOps_cons, exOp_eq, nx_eq, cur_eq, stepQ, ev, lk, putT, erA, inB, opt, bnd, req, ret, onQ, ap, binG, binF, intF, true_and, and_self, Nat.reduceEqDiff, Nat.reduceLT, Nat.reduceAdd, if_true, if_false, c1]
  refine hK _ ?_
  clear hK K
  refine W.seqK fun K hK => W.cond (b := false) (by simp only [ev, lk, Nat.reduceEqDiff, if_true, if_false]) (fun h => absurd h (by simp)) (fun _ => W.exit ?_)
  simp only [thn_normal, thn_exit, inb_exit, if_true]
  clear hK K
  refine hKx _ ?_
  refine W.seqK fun K hK => W.regionK tt_ok ?_
  simp only [exOps_nil, exOps_cons, exOp_eq, nx_eq, cur_eq, stepQ, ev, ofV, putT, erA, inB, opt, ret, onQ, ap, true_and, Nat.reduceEqDiff, Nat.reduceLT, Nat.reduceAdd, if_false]
  refine hK _ ?_
  clear hK K
  refine W.ret ?_
  simp only [fin_ret, finB, resQ, resV, leL, AV.nmIn, entsIn, lk, opt, bnd, req, ret, onQ, AV.isTup, and_self, Nat.reduceEqDiff, if_true, if_false]
end Go.Proofs.Ythnkhdenkagceaa
