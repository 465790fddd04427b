/- The statement ShaLong: the walk. -/
import Derived.Test.YtageadccfdbmjaaDoorShI
-- TT 3 4 5 22 24 26 27 28 30 38
-- TOUCH 18 1
set_option linter.unusedVariables false
set_option linter.unusedSimpArgs false
namespace Go.Proofs.YtageadccfdbmjaaDoor
open Sx
set_option maxRecDepth 100000
set_option maxHeartbeats 4000000
/-- The bytes behind some rounds. -/
def bC (n : Nat) (c : Int) : Nat → List Int
  | 0 => List.replicate n 0
  | k + 1 => (bC n c k).set k c
theorem bC_len (n : Nat) (c : Int) : ∀ k, (bC n c k).length = n
  | 0 => by simp [bC]
  | k + 1 => by simp [bC, bC_len n c k]
theorem bC_eq (n : Nat) (c : Int) : ∀ k, k ≤ n → bC n c k = List.replicate k c ++ List.replicate (n - k) 0
  | 0, _ => by simp [bC]
  | k + 1, h => by
    rw [bC, bC_eq n c k (by omega), show n - k = (n - (k + 1)) + 1 by omega, List.replicate_succ, List.set_append_right _ _ (by simp), List.length_replicate, Nat.sub_self, List.set_cons_zero, List.replicate_succ', List.append_assoc]
    rfl
theorem long_fn (m : Nat) (c : Int) (hm : m < 65536) :
    FnR Tryd.prog G 6 [.int .u16 m, .int .u8 c] [] (.bool true) [] := by
  have e1 : Int.tmod (m : Int) 300 = ((m % 300 : Nat) : Int) := by rw [Int.tmod_eq_emod_of_nonneg (by omega)]; omega
  have e2 : IntKind.i64.wrap ((m % 300 : Nat) : Int) = ((m % 300 : Nat) : Int) := by rw [IntKind.wrap_i64]; omega
  have hn : m % 300 < 300 := Nat.mod_lt _ (by decide)
  generalize hN : m % 300 = n at *
  have hz : (List.replicate 8 (0 : Int)) = zst := rfl
  have hrl : (List.replicate n (0 : Int)).length = n := List.length_replicate
  have hrt : List.take n (List.replicate n (0 : Int)) = List.replicate n 0 := List.take_of_length_le (by simp)
  refine FnR.of_walk (m := 46) (n0 := 0) tt_ok Tryd.func6 rfl rfl (by simp) (by simp [nmH]) ?_
  rw [show Tryd.f6.results.toList = [.tmp 4] from rfl]
  refine W.seqK fun K hK => W.regionK tt_ok ?_
  simp only [exOps_nil, exOps_cons, exOp_eq, nx_eq, cur_eq, stepQ, ev, ofV, parT, putT, erA, inB, opt, ret, onQ, ap, true_and, Nat.reduceEqDiff, Nat.reduceLT, Nat.zero_add, if_false, reduceCtorEq]
  refine hK _ ?_
  clear hK K
  refine W.seqK fun Kz hKz => ?_
  refine W.seqK fun K hK => W.regionK tt_ok ?_
  simp only [exOps_cons, exOp_eq, exCall_eq, evL, ev, inB, true_and, Nat.reduceLT]
  refine CallK.pure _ _ alive_fn call15 (by simp only [ret, onQ, isTupL, true_and, Bool.false_eq_true, List.append_nil, vw.vwL, AV.free]; all_goals (and_intros <;> first | exact AV.subL_refl _ | assumption | trivial | omega | rfl | (simp [AV.subL_refl]; done) | (simp; exact AV.subL_refl _) | (simp [AV.subL, AV.sub]; done))) ?_
  simp only [Bool.not_true, exOps_nil, exOps_cons, exOp_eq, nx_eq, cur_eq, stepQ, ev, lk, putT, erA, inB, opt, bnd, req, ret, onQ, ap, unF, true_and, and_self, Nat.reduceEqDiff, Nat.reduceLT, Nat.reduceAdd, if_true, if_false, reduceCtorEq]
  refine hK _ ?_
  clear hK K
  refine W.cond (b := false) (by simp only [ev, lk, Nat.reduceEqDiff, if_true, if_false, reduceCtorEq]) (fun hb => absurd hb (by simp)) (fun _ => W.skip ?_)
  rw [thn_normal]
  refine hKz _ ?_
  refine W.seqK fun K hK => W.regionK tt_ok ?_
  simp only [exOps_nil, exOps_cons, exOp_eq, nx_eq, cur_eq, stepQ, ev, ofV, lk, putT, erA, inB, opt, bnd, req, ret, onQ, ap, binG, binF, intF, cvQ, and_true, true_and, and_self, Nat.reduceEqDiff, Nat.reduceLT, Nat.reduceAdd, if_true, if_false, reduceCtorEq, ne_eq, tt_3, tt_38, e1, e2]
  repeat (refine ⟨by omega, ?_⟩)
  refine hK _ ?_
  clear hK K
  refine W.seqK fun K hK => W.regionK tt_ok ?_
  simp only [exOps_nil, exOps_cons, exOp_eq, nx_eq, cur_eq, stepQ, putT, erA, inB, opt, ret, onQ, ap, up, er, true_and, Nat.reduceEqDiff, Nat.reduceLT, Nat.reduceAdd, if_false, reduceCtorEq, tt_30]
  refine hK _ ?_
  clear hK K
  refine W.seqK fun K hK => W.regionK tt_ok ?_
  simp only [exOps_nil, exOps_cons, exOp_eq, nx_eq, cur_eq, stepQ, ev, lk, putT, erA, inB, opt, req, ret, onQ, ap, up, er, intsOf, Row.len, Row.sz, Row.take, mkQ, zeroCs, cellsRow, and_true, true_and, Nat.reduceEqDiff, Nat.reduceLT, Nat.reduceAdd, Int.toNat_natCast, if_true, if_false, reduceCtorEq, Option.map_some, List.append_nil, tt_5, tt_22, Int.toNat_natCast]
  rw [hrt]
  refine ⟨⟨by omega, by omega, by omega, by omega, hrl⟩, ?_⟩
  refine hK _ ?_
  clear hK K
  refine W.seqK fun Kx hKx => ?_
  refine W.seqK fun K hK => W.regionK tt_ok ?_
  simp only [exOps_nil, exOps_cons, exOp_eq, exCall_eq, nx_eq, cur_eq, evL, stepQ, ev, ofV, lk, putT, erA, inB, opt, bnd, req, ret, onQ, ap, bltQ, bltV, lenF, true_and, and_self, or_false, Nat.reduceEqDiff, Nat.reduceLT, Nat.reduceAdd, if_true, if_false, reduceCtorEq, List.getElem?_cons_zero, Option.bind_some, Option.map_some, tt_22]
  refine hK _ ?_
  clear hK K
  refine W.blockK ?_
  refine W.loopF (fun k : Nat => k ≤ n) (fun k => ⟨[(1, .int .u8 c), (4, .bool false), (6, .ptr 112 0 0 1), (7, .sl 144 1 0 n), (17, .int .i64 n), (18, .int .i64 (k : Int))], [(144, .vec 5 (.ints .u8 (bC n c k))), (112, .obj 30 (.agg [.ints .u32 8 (S (List.replicate k c)), .lstI .u8 (R (List.replicate k c)), .int .u64 ((List.replicate k c).length : Int)]))], 1024, 46⟩) (fun k => n - k) 0 (by simp) (by simp [wkF, leF, leFE, fzN, fzR, entSub, AV.sub, AV.subL, vw, vw.vwL, onQ, opt, bnd, req, ret, lk, Nm, AV.isTup, AV.nmIn, AV.nmInL, nmE, Ent.nmIn, Row.nmIn, bC, S_nil, hz, R]) ?_
  intro k hk K3 hK3
  have hbl := bC_len n c k
  by_cases hlt : k < n
  · have c1 : (k : Int) < n := by omega
    have hlen : (List.replicate k c).length = k := List.length_replicate
    have hne : R (List.replicate k c) ++ [c] ≠ [] := by simp
    have cw := writeB_at 1248 (List.replicate k c) [c] (by omega) (by simp) hne
    have hra := R_app (List.replicate k c) [c]
    have hrep : List.replicate k c ++ [c] = List.replicate (k + 1) c := List.replicate_succ'.symm
    have hone : (((bC n c k).set k c).drop k).take 1 = [c] := by
      apply List.ext_getElem
      · simp; omega
      · intro i h1 h2
        simp at h2
        subst h2
        simp
    rw [hrep] at cw hra
    have hbs : (bC n c k).set k c = bC n c (k + 1) := rfl
    have w1 : IntKind.i64.wrap ((k : Int) + 1) = ((k + 1 : Nat) : Int) := wrap_up k (by omega)
    generalize R (List.replicate k c) ++ [c] = RA at *
    rw [← hone] at cw
    generalize hS2 : S (List.replicate (k + 1) c) = S2 at *
    generalize S (List.replicate k c) = S1 at *
    generalize R (List.replicate k c) = R1 at *
    generalize hR2 : R (List.replicate (k + 1) c) = R2 at *
    have hsl : ((bC n c k).set k c).length = n := by simp [hbl]
    refine W.seqK fun K hK => W.regionK tt_ok ?_
    simp only [decide_true, exOps_nil, exOps_cons, exOp_eq, nx_eq, cur_eq, stepQ, ev, lk, putT, erA, inB, opt, bnd, req, ret, onQ, ap, binG, binF, intF, true_and, and_self, Nat.reduceEqDiff, Nat.reduceLT, Nat.reduceAdd, if_true, if_false, c1]
    refine hK _ ?_
    clear hK K
    refine W.seqK fun K hK => W.cond (b := true) (by simp only [ev, lk, Nat.reduceEqDiff, if_true, if_false]) (fun _ => W.skip ?_) (fun h => absurd h (by simp))
    rw [thn_normal]
    refine hK _ ?_
    clear hK K
    refine W.seqK fun K hK => W.blockK ?_
    refine W.seqK fun K hK => W.regionK tt_ok ?_
    simp only [exOps_nil, exOps_cons, exOp_eq, nx_eq, cur_eq, stepQ, ev, lk, putT, erA, inB, opt, ret, onQ, ap, true_and, Nat.reduceEqDiff, Nat.reduceLT, Nat.reduceAdd, if_true, if_false]
    refine hK _ ?_
    clear hK K
    refine W.seqK fun K hK => W.regionK tt_ok ?_
    simp only [exOps_nil, exOps_cons, exOp_eq, nx_eq, cur_eq, stepQ, ev, lk, putT, erA, inB, opt, bnd, req, ret, onQ, ap, up, er, Kd.elem, ixA, asI, stP, stE, and_true, true_and, Nat.reduceEqDiff, Nat.reduceLT, Nat.reduceAdd, Int.toNat_natCast, Nat.zero_add, if_true, if_false, tt_5, tt_22, Int.toNat_natCast]
    repeat (refine ⟨by omega, ?_⟩)
    refine hK _ ?_
    clear hK K
    refine exD_sound (A := [⟨0, false, []⟩, ⟨0, false, []⟩, ⟨0, false, []⟩, ⟨0, false, []⟩, ⟨0, false, [3]⟩, ⟨0, false, [1, 2, 3, 4]⟩, ⟨1, false, [0, 1, 2, 3, 4, 5]⟩, ⟨2, false, [0, 1, 2, 3, 4, 5, 6]⟩]) mix tt_ok (by kernel_rfl) ?_
    simp only [exOp_eq, exCall_eq, exD_cons, nxD_eq, cur_eq, flI, ownB, evL, stepQ, ev, ofV, lk, putT, erA, inB, opt, bnd, req, ret, onQ, ap, binG, binF, intF, ldP, ldE, ldC, ldS, Kd.agg, comps, csize, takeI, takeC, dropC, slF, bd, bds, and_true, true_and, and_self, Nat.reduceEqDiff, Nat.reduceLT, Nat.reduceLeDiff, Nat.reduceAdd, Nat.reduceSub, Nat.sub_self, Int.toNat_natCast, Nat.le_refl, Nat.add_zero, Nat.zero_add, if_true, if_false, reduceCtorEq, Option.bind_some, Option.map_some, tt_5, tt_22, tt_30, w1, Int.toNat_natCast, Nat.add_sub_cancel_left]
    refine ⟨by omega, ?_⟩
    refine CallK.with [] [(1248, .vec 5 (.ints .u8 RA))] _ _ cw call18 (by simp only [Bool.or_true, Bool.or_false, AV.nmIn, lk, opt, bnd, req, ret, onQ, AV.isTup, isTupL, Ent.row, and_true, true_and, and_self, Nat.reduceEqDiff, if_true, if_false, forall_const, List.append_nil, vw.vwL, vw, viewR, AV.free, AV.freeL, Ent.row, Bool.or_self]; all_goals (and_intros <;> first | exact AV.subL_refl _ | assumption | trivial | omega | rfl | (simp [AV.subL_refl]; done) | (simp [AV.subL, AV.sub, entsFree]; done))) (by simp [leL]) (by intro n hn; first | (left; revert hn; simp [Nm, lk]; done) | (right; revert hn; simp only [Nm, lk]; split <;> simp <;> omega)) (by simp [entsIn]) ?_
    simp only [callDel, exOp_eq, exD_nil, exD_cons, nxD_eq, cur_eq, flI, ownB, ownL, stepQ, ev, lk, putT, erA, inB, opt, bnd, req, ret, onQ, ap, up, er, AV.isAgg, Kd.agg, comps, szL, csize, takeI, takeC, dropC, stP, stE, stC, stS, thn_normal, inb_normal, true_and, and_self, Nat.reduceEqDiff, Nat.reduceLT, Nat.reduceLeDiff, Nat.reduceAdd, Nat.reduceSub, Nat.sub_self, Nat.le_refl, Nat.add_zero, Nat.zero_add, if_true, if_false, reduceCtorEq, Option.bind_some, Option.map_some, List.append_nil, List.nil_append, tt_30, List.map_cons, List.map_nil, List.reverse_cons, List.reverse_nil]
    repeat (refine ⟨by omega, ?_⟩)
    refine hK _ ?_
    rw [hbs]
    refine W.region tt_ok ?_
    simp only [exOps_nil, exOps_cons, exOp_eq, nx_eq, cur_eq, stepQ, ev, ofV, lk, putT, erA, inB, opt, bnd, req, ret, onQ, ap, binG, binF, intF, thn_normal, true_and, and_self, Nat.reduceEqDiff, Nat.reduceLT, Nat.reduceAdd, if_true, if_false, w1]
    refine hK3 _ (k + 1) (by omega) (by omega) ?_
    simp [wkF, leF, leFE, fzN, fzR, entSub, AV.sub, AV.subL, vw, vw.vwL, viewR, onQ, opt, bnd, req, ret, lk, Nm, Ent.row, AV.isTup, AV.nmIn, AV.nmInL, nmE, Ent.nmIn, Row.nmIn, hra, off_le, hS2, hR2]
  have hk' : k = n := by omega
  subst hk'
  have c1 : ¬ ((k : Int) < k) := by omega
  have hbn : bC k c k = List.replicate k c := by rw [bC_eq k c k (Nat.le_refl _), Nat.sub_self]; simp
  rw [hbn]
  generalize hbs : List.replicate k c = bs at *
  have hbsl : bs.length = k := by rw [← hbs]; exact List.length_replicate
  have hbt : List.take k bs = bs := List.take_of_length_le (by omega)
  have c19 := sumB_fn bs
  have c16 := sum_fn bs (by omega)
  have hD1 := dig_len bs
  rw [← hbt] at c16
  refine W.seqK fun K hK => W.regionK tt_ok ?_
  simp only [decide_false, exOps_nil, exOps_cons, exOp_eq, nx_eq, cur_eq, stepQ, ev, lk, putT, erA, inB, opt, bnd, req, ret, onQ, ap, binG, binF, intF, true_and, and_self, Nat.reduceEqDiff, Nat.reduceLT, Nat.reduceAdd, if_true, if_false, c1]
  refine hK _ ?_
  clear hK K
  refine W.seqK fun K hK => W.cond (b := false) (by simp only [ev, lk, Nat.reduceEqDiff, if_true, if_false]) (fun h => absurd h (by simp)) (fun _ => W.exit ?_)
  simp only [thn_normal, thn_exit, inb_exit, if_true]
  refine hKx _ ?_
  by_cases hw : R bs ++ [] = []
  · have cw := writeB_no bs [] (by omega) hw
    have hRbc : R bs = [] := by simpa using hw
    rw [List.append_nil] at cw
    have c19' := c19
    rw [hRbc] at c19'
    rw [hbt] at c16
    generalize dig bs = D at *
    generalize S bs = S2 at *
    refine W.seqK fun K hK => W.regionK tt_ok ?_
    simp only [exOps_cons, exOp_eq, exCall_eq, nx_eq, cur_eq, evL, stepQ, ev, lk, putT, erA, inB, opt, bnd, req, ret, onQ, ap, ldP, ldE, ldC, ldS, Kd.agg, comps, csize, takeI, takeC, dropC, true_and, and_self, Nat.reduceEqDiff, Nat.reduceLT, Nat.reduceLeDiff, Nat.reduceAdd, Nat.reduceSub, Nat.sub_self, Nat.le_refl, Nat.add_zero, if_true, if_false, reduceCtorEq, Option.bind_some, Option.map_some, tt_30]
    refine CallK.pure _ _ c19 call19 (by simp only [AV.nmIn, bnd, req, ret, onQ, AV.isTup, isTupL, true_and, and_self, Bool.false_eq_true, List.append_nil, vw.vwL, vw, AV.free, AV.freeL, Bool.or_self]; all_goals (and_intros <;> first | exact AV.subL_refl _ | assumption | trivial | omega | rfl | (simp [AV.subL_refl]; done) | (simp; exact AV.subL_refl _) | (simp [AV.subL, AV.sub]; done))) ?_
    simp only [exOps_cons, exOp_eq, exCall_eq, nx_eq, cur_eq, evL, stepQ, ev, lk, putT, erA, inB, opt, ret, onQ, ap, true_and, Nat.reduceEqDiff, Nat.reduceLT, Nat.reduceAdd, if_true, if_false, Option.bind_some, Option.map_some]
    rw [← hbt] at c16
    refine CallK.pure _ _ c16 call16 (by simp only [Bool.or_false, lk, opt, bnd, req, ret, onQ, AV.isTup, isTupL, Ent.row, and_true, true_and, and_self, Nat.reduceEqDiff, Nat.zero_add, if_true, if_false, forall_const, List.append_nil, vw.vwL, vw, viewR, AV.free, AV.freeL, Ent.row, Bool.or_self]; all_goals (and_intros <;> first | exact AV.subL_refl _ | assumption | trivial | omega | rfl | (simp [AV.subL_refl]; done) | (simp; exact AV.subL_refl _) | (simp [AV.subL, AV.sub]; done))) ?_
    simp only [↓gTT, ↓nTT, exOps_cons, exOp_eq, exCall_eq, nx_eq, cur_eq, evL, stepQ, ev, ofV, lk, putT, erA, inB, opt, bnd, req, ret, onQ, ap, binG, eqOp, intsOf, ldP, ldE, ldC, ldS, Kd.agg, comps, csize, takeI, takeC, dropC, and_true, true_and, and_self, Nat.reduceEqDiff, Nat.reduceLT, Nat.reduceLeDiff, Nat.reduceAdd, Nat.reduceSub, Nat.sub_self, Nat.le_refl, Nat.add_zero, if_true, if_false, reduceCtorEq, List.getElem?_cons_zero, List.getElem?_cons_succ, Option.bind_some, Option.map_some, List.append_nil, tt_5, tt_24, tt_30, beq_self_eq_true]
    refine ⟨hD1, ?_⟩
    refine CallK.pure _ _ cw call18 (by simp only [AV.nmIn, bnd, req, ret, onQ, AV.isTup, isTupL, true_and, and_self, Bool.false_eq_true, List.append_nil, vw.vwL, vw, AV.free, AV.freeL, Bool.or_self]; all_goals (and_intros <;> first | exact AV.subL_refl _ | assumption | trivial | omega | rfl | (simp [AV.subL_refl]; done) | (simp; exact AV.subL_refl _) | (simp [AV.subL, AV.sub]; done))) ?_
    simp only [↓gTT, ↓nTT, exOps_cons, exOp_eq, exCall_eq, nx_eq, evL, ev, lk, putT, erA, inB, ap, and_true, true_and, Nat.reduceEqDiff, Nat.reduceLT, Nat.reduceAdd, if_true, if_false, List.getElem?_cons_zero, List.getElem?_cons_succ, Option.bind_some, Option.map_some]
    refine CallK.pure _ _ c19' call19 (by simp only [AV.nmIn, bnd, req, ret, onQ, AV.isTup, isTupL, true_and, and_self, Bool.false_eq_true, List.append_nil, vw.vwL, vw, AV.free, AV.freeL, Bool.or_self]; all_goals (and_intros <;> first | exact AV.subL_refl _ | assumption | trivial | omega | rfl | (simp [AV.subL_refl]; done) | (simp; exact AV.subL_refl _) | (simp [AV.subL, AV.sub]; done))) ?_
    simp only [↓gTT, ↓nTT, exOps_cons, exOp_eq, exCall_eq, nx_eq, cur_eq, evL, stepQ, ev, lk, putT, erA, inB, opt, ret, onQ, ap, and_true, true_and, Nat.reduceEqDiff, Nat.reduceLT, Nat.reduceAdd, if_true, if_false, List.getElem?_cons_zero, List.getElem?_cons_succ, Option.bind_some, Option.map_some]
    refine CallK.pure _ _ c16 call16 (by simp only [Bool.or_false, lk, opt, bnd, req, ret, onQ, AV.isTup, isTupL, Ent.row, and_true, true_and, and_self, Nat.reduceEqDiff, Nat.zero_add, if_true, if_false, forall_const, List.append_nil, vw.vwL, vw, viewR, AV.free, AV.freeL, Ent.row, Bool.or_self]; all_goals (and_intros <;> first | exact AV.subL_refl _ | assumption | trivial | omega | rfl | (simp [AV.subL_refl]; done) | (simp; exact AV.subL_refl _) | (simp [AV.subL, AV.sub]; done))) ?_
    simp only [↓gTT, ↓nTT, exOps_nil, exOps_cons, exOp_eq, nx_eq, cur_eq, stepQ, ev, lk, putT, erA, inB, opt, bnd, req, ret, onQ, ap, binG, eqOp, intsOf, pickF, and_true, true_and, and_self, Nat.reduceEqDiff, Nat.reduceLT, Nat.reduceAdd, if_true, if_false, List.getElem?_cons_zero, List.getElem?_cons_succ, Option.bind_some, Option.map_some, List.append_nil, tt_5, tt_24, beq_self_eq_true]
    repeat (refine ⟨by omega, ?_⟩)
    refine hK _ ?_
    clear hK K
    refine W.ret ?_
    simp only [fin_ret, finB, resQ, resV, leL, AV.nmIn, entsIn, lk, opt, bnd, req, ret, onQ, AV.isTup, and_self, Nat.reduceEqDiff, if_true, if_false]
  · have cw := writeB_at 1152 bs [] (by omega) (by simp) hw
    have hra := R_app bs []
    rw [List.append_nil bs] at cw hra
    have c19' := c19
    rw [← hra] at c19'
    rw [hbt] at c16
    generalize dig bs = D at *
    generalize S bs = S2 at *
    generalize R bs ++ [] = RA at *
    generalize R bs = R1 at *
    refine W.seqK fun K hK => W.regionK tt_ok ?_
    simp only [exOps_cons, exOp_eq, exCall_eq, nx_eq, cur_eq, evL, stepQ, ev, lk, putT, erA, inB, opt, bnd, req, ret, onQ, ap, ldP, ldE, ldC, ldS, Kd.agg, comps, csize, takeI, takeC, dropC, true_and, and_self, Nat.reduceEqDiff, Nat.reduceLT, Nat.reduceLeDiff, Nat.reduceAdd, Nat.reduceSub, Nat.sub_self, Nat.le_refl, Nat.add_zero, if_true, if_false, reduceCtorEq, Option.bind_some, Option.map_some, tt_30]
    refine CallK.pure _ _ c19 call19 (by simp only [AV.nmIn, bnd, req, ret, onQ, AV.isTup, isTupL, true_and, and_self, Bool.false_eq_true, List.append_nil, vw.vwL, vw, AV.free, AV.freeL, Bool.or_self]; all_goals (and_intros <;> first | exact AV.subL_refl _ | assumption | trivial | omega | rfl | (simp [AV.subL_refl]; done) | (simp; exact AV.subL_refl _) | (simp [AV.subL, AV.sub]; done))) ?_
    simp only [exOps_cons, exOp_eq, exCall_eq, nx_eq, cur_eq, evL, stepQ, ev, lk, putT, erA, inB, opt, ret, onQ, ap, true_and, Nat.reduceEqDiff, Nat.reduceLT, Nat.reduceAdd, if_true, if_false, Option.bind_some, Option.map_some]
    rw [← hbt] at c16
    refine CallK.pure _ _ c16 call16 (by simp only [Bool.or_false, lk, opt, bnd, req, ret, onQ, AV.isTup, isTupL, Ent.row, and_true, true_and, and_self, Nat.reduceEqDiff, Nat.zero_add, if_true, if_false, forall_const, List.append_nil, vw.vwL, vw, viewR, AV.free, AV.freeL, Ent.row, Bool.or_self]; all_goals (and_intros <;> first | exact AV.subL_refl _ | assumption | trivial | omega | rfl | (simp [AV.subL_refl]; done) | (simp; exact AV.subL_refl _) | (simp [AV.subL, AV.sub]; done))) ?_
    simp only [↓gTT, ↓nTT, exOps_cons, exOp_eq, exCall_eq, nx_eq, cur_eq, evL, stepQ, ev, ofV, lk, putT, erA, inB, opt, bnd, req, ret, onQ, ap, binG, eqOp, intsOf, ldP, ldE, ldC, ldS, Kd.agg, comps, csize, takeI, takeC, dropC, and_true, true_and, and_self, Nat.reduceEqDiff, Nat.reduceLT, Nat.reduceLeDiff, Nat.reduceAdd, Nat.reduceSub, Nat.sub_self, Nat.le_refl, Nat.add_zero, if_true, if_false, reduceCtorEq, List.getElem?_cons_zero, List.getElem?_cons_succ, Option.bind_some, Option.map_some, List.append_nil, tt_5, tt_24, tt_30, beq_self_eq_true]
    refine ⟨hD1, ?_⟩
    rw [hbt] at c16
    refine CallK.with [] [(1152, .vec 5 (.ints .u8 RA))] _ _ cw call18 (by simp only [AV.nmIn, bnd, req, ret, onQ, AV.isTup, isTupL, true_and, and_self, Bool.false_eq_true, List.append_nil, vw.vwL, vw, AV.free, AV.freeL, Bool.or_self]; all_goals (and_intros <;> first | exact AV.subL_refl _ | assumption | trivial | omega | rfl | (simp []; done) | (simp [AV.subL, AV.sub, entsFree]; done))) (by simp [leL]) (by intro n hn; first | (left; revert hn; simp [Nm, lk]; done) | (right; revert hn; simp only [Nm, lk]; split <;> simp <;> omega)) (by simp [entsIn]) ?_
    simp only [callDel, ↓gTT, ↓nTT, exOps_cons, exOp_eq, exCall_eq, nx_eq, evL, ev, lk, putT, erA, inB, ap, up, er, and_true, true_and, Nat.reduceEqDiff, Nat.reduceLT, Nat.reduceAdd, if_true, if_false, List.getElem?_cons_zero, List.getElem?_cons_succ, Option.bind_some, Option.map_some, List.nil_append, List.map_cons, List.map_nil, List.reverse_cons, List.reverse_nil]
    refine CallK.pure _ _ c19' call19 (by simp only [Bool.or_true, Bool.or_false, AV.nmIn, lk, opt, bnd, req, ret, onQ, AV.isTup, isTupL, Ent.row, and_true, true_and, and_self, Nat.reduceEqDiff, if_true, if_false, forall_const, List.append_nil, vw.vwL, vw, viewR, AV.free, AV.freeL, Ent.row, Bool.or_self]; all_goals (and_intros <;> first | exact AV.subL_refl _ | assumption | trivial | omega | rfl | (simp [AV.subL_refl]; done) | (simp; exact AV.subL_refl _) | (simp [AV.subL, AV.sub]; done))) ?_
    simp only [↓gTT, ↓nTT, exOps_cons, exOp_eq, exCall_eq, nx_eq, cur_eq, evL, stepQ, ev, lk, putT, erA, inB, opt, ret, onQ, ap, and_true, true_and, Nat.reduceEqDiff, Nat.reduceLT, Nat.reduceAdd, if_true, if_false, List.getElem?_cons_zero, List.getElem?_cons_succ, Option.bind_some, Option.map_some]
    rw [← hbt] at c16
    refine CallK.pure _ _ c16 call16 (by simp only [Bool.or_false, lk, opt, bnd, req, ret, onQ, AV.isTup, isTupL, Ent.row, and_true, true_and, and_self, Nat.reduceEqDiff, Nat.zero_add, if_true, if_false, forall_const, List.append_nil, vw.vwL, vw, viewR, AV.free, AV.freeL, Ent.row, Bool.or_self]; all_goals (and_intros <;> first | exact AV.subL_refl _ | assumption | trivial | omega | rfl | (simp [AV.subL_refl]; done) | (simp; exact AV.subL_refl _) | (simp [AV.subL, AV.sub]; done))) ?_
    simp only [↓gTT, ↓nTT, exOps_nil, exOps_cons, exOp_eq, nx_eq, cur_eq, stepQ, ev, lk, putT, erA, inB, opt, bnd, req, ret, onQ, ap, binG, eqOp, intsOf, pickF, and_true, true_and, and_self, Nat.reduceEqDiff, Nat.reduceLT, Nat.reduceAdd, if_true, if_false, List.getElem?_cons_zero, List.getElem?_cons_succ, Option.bind_some, Option.map_some, List.append_nil, tt_5, tt_24, beq_self_eq_true]
    repeat (refine ⟨by omega, ?_⟩)
    refine hK _ ?_
    clear hK K
    refine W.ret ?_
    simp only [fin_ret, finB, resQ, resV, leL, AV.nmIn, entsIn, lk, opt, bnd, req, ret, onQ, AV.isTup, and_self, Nat.reduceEqDiff, if_true, if_false]
end Go.Proofs.YtageadccfdbmjaaDoor
