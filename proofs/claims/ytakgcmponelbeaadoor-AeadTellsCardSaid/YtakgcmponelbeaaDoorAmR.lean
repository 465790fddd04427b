/- The reference's turn, word, quarter. -/
import Derived.Test.YtakgcmponelbeaaDoorAmP
-- TT 3 5 38 24 60
set_option linter.unusedVariables false
set_option linter.unusedSimpArgs false
namespace Go.Proofs.YtakgcmponelbeaaDoor.Sm
open Sx
set_option maxRecDepth 100000
set_option maxHeartbeats 4000000
def turnN (x : Int) : Nat → Int
  | 0 => x
  | k + 1 => IntKind.u32.wrap (IntKind.u32.wrap (turnN x k * 2) + turnN x k / 2147483648)
theorem wrap32 (x : Int) : 0 ≤ IntKind.u32.wrap x ∧ IntKind.u32.wrap x < 4294967296 := by rw [IntKind.wrap_u32]; omega
theorem turnN_ok {x : Int} (hx : 0 ≤ x ∧ x < 4294967296) : ∀ k, 0 ≤ turnN x k ∧ turnN x k < 4294967296
  | 0 => hx
  | k + 1 => wrap32 _
theorem turn_fn (x : Int) (n : Nat) (hx : 0 ≤ x ∧ x < 4294967296) (hn : n < 64) : FnR Tryd.prog G 39 [.int .u32 x, .int .i64 n] [] (.int .u32 (turnN x n)) [] := by
  refine FnR.of_walk (m := 17) (n0 := 0) tt_ok Tryd.func39 rfl rfl (by simp) (by simp [nmH]) ?_
  rw [show Tryd.f39.results.toList = [.tmp 4] from rfl]
  refine W.seqK fun K hK => W.regionK tt_ok ?_
  simp only [exOps_nil, exOps_cons, exOp_eq, nx_eq, cur_eq, stepQ, ev, ofV, parT, putT, erA, inB, opt, ret, onQ, ap, true_and, Nat.reduceEqDiff, Nat.reduceLT, Nat.zero_add, if_false, reduceCtorEq]
  refine hK _ ?_
  clear hK K
  refine W.seqK fun Kz hKz => ?_
  refine W.seqK fun K hK => W.regionK tt_ok ?_
  simp only [exOps_nil, exOps_cons, exOp_eq, nx_eq, cur_eq, stepQ, ev, ofV, putT, erA, inB, opt, ret, onQ, ap, true_and, Nat.reduceEqDiff, Nat.reduceLT, Nat.reduceAdd, if_false, reduceCtorEq]
  refine hK _ ?_
  clear hK K
  refine W.blockK ?_
  refine W.loopK (fun k : Nat => k ≤ n) (fun k => ⟨[(0, .int .u32 (turnN x k)), (1, .int .i64 n), (5, .int .i64 k)], [], 100, 17⟩) (fun k => n - k) 0 (by simp) (by simp [wk, leL, lk, nmT, nmE, nmH, AV.nmIn, turnN]) ?_
  intro k hk K3 hK3
  refine W.seqK fun K hK => ?_
  refine W.seqK fun K hK => W.regionK tt_ok ?_
  simp only [exOps_nil, exOps_cons, exOp_eq, nx_eq, cur_eq, stepQ, ev, lk, putT, erA, inB, opt, bnd, req, ret, onQ, ap, binG, binF, intF, true_and, and_self, Nat.reduceEqDiff, Nat.reduceLT, Nat.reduceAdd, if_true, if_false, reduceCtorEq]
  refine hK _ ?_
  clear hK K
  refine W.cond (b := decide ((k : Int) < n)) (by simp only [ev, lk, Nat.reduceEqDiff, if_true, if_false, reduceCtorEq]) (fun hb => W.skip ?_) (fun hb => W.exit ?_)
  · rw [thn_normal]
    have hlt : k < n := by have := of_decide_eq_true hb; omega
    have ht := turnN_ok hx k
    have q1 : Int.tdiv (turnN x k) 2147483648 = turnN x k / 2147483648 := by rw [Int.tdiv_eq_ediv_of_nonneg ht.1]
    have q2 : IntKind.u32.wrap (turnN x k / 2147483648) = turnN x k / 2147483648 := by rw [IntKind.wrap_u32]; omega
    refine hK _ ?_
    clear hK K
    refine W.seqK fun K hK => W.blockK ?_
    refine W.region tt_ok ?_
    simp only [exOps_nil, exOps_cons, exOp_eq, nx_eq, cur_eq, stepQ, ev, ofV, lk, putT, erA, inB, opt, bnd, req, ret, onQ, ap, binG, binF, intF, thn_normal, inb_normal, and_true, true_and, and_self, Nat.reduceEqDiff, Nat.reduceLT, Nat.reduceAdd, if_true, if_false, reduceCtorEq, ne_eq, q1, q2]
    repeat (refine ⟨by omega, ?_⟩)
    refine hK _ ?_
    clear hK K
    refine W.region tt_ok ?_
    simp only [exOps_nil, exOps_cons, exOp_eq, nx_eq, cur_eq, stepQ, ev, ofV, lk, putT, erA, inB, opt, bnd, req, ret, onQ, ap, binG, binF, intF, thn_normal, true_and, and_self, Nat.reduceEqDiff, Nat.reduceLT, Nat.reduceAdd, if_true, if_false, reduceCtorEq, wrap_up k (by omega)]
    refine hK3 _ (k + 1) (by omega) (by omega) ?_
    simp [wk, leL, lk, nmT, nmE, nmH, AV.nmIn, turnN]
  simp only [thn_normal, thn_exit, inb_exit, if_true]
  clear hK K
  have hke : k = n := by have := of_decide_eq_false hb; omega
  subst hke
  refine hKz _ ?_
  clear hKz Kz
  refine W.seqK fun K hK => W.regionK tt_ok ?_
  simp only [exOps_nil, exOps_cons, exOp_eq, nx_eq, cur_eq, stepQ, ev, lk, putT, erA, inB, opt, ret, onQ, ap, true_and, Nat.reduceEqDiff, Nat.reduceLT, Nat.reduceAdd, if_true, if_false, reduceCtorEq]
  refine hK _ ?_
  clear hK K
  refine W.ret ?_
  simp only [fin_ret, finB, resQ, resV, leL, AV.nmIn, entsIn, lk, opt, bnd, req, ret, onQ, AV.isTup, and_self, Nat.reduceEqDiff, if_true, if_false, reduceCtorEq]
def word4R (xs : List Int) : Int :=
  IntKind.u32.wrap (IntKind.u32.wrap (IntKind.u32.wrap (IntKind.u32.wrap (xs.getD 0 0) + IntKind.u32.wrap (256 * IntKind.u32.wrap (xs.getD 1 0))) + IntKind.u32.wrap (65536 * IntKind.u32.wrap (xs.getD 2 0))) + IntKind.u32.wrap (16777216 * IntKind.u32.wrap (xs.getD 3 0)))
theorem wordR_fn (xs : List Int) (h : 4 ≤ xs.length) : FnR Tryd.prog G 32 [.lstI .u8 xs] [] (.int .u32 (word4R xs)) [] := by
  refine FnR.of_walk (m := 25) (n0 := 0) tt_ok Tryd.func32 rfl rfl (by simp) (by simp [nmH]) ?_
  rw [show Tryd.f32.results.toList = [.tmp 2] from rfl]
  refine W.seqK fun K hK => W.regionK tt_ok ?_
  simp only [exOps_nil, exOps_cons, exOp_eq, nx_eq, cur_eq, stepQ, ev, ofV, parT, putT, erA, inB, opt, ret, onQ, ap, true_and, Nat.reduceLT, Nat.zero_add, if_false, reduceCtorEq]
  refine hK _ ?_
  clear hK K
  refine W.seqK fun K hK => W.drawK [⟨0, false, []⟩, ⟨0, false, [0]⟩, ⟨0, false, [0, 1]⟩, ⟨0, false, [0, 1, 2]⟩, ⟨0, false, []⟩, ⟨0, false, [4]⟩, ⟨0, false, [4, 5]⟩, ⟨0, false, [4, 5, 6]⟩, ⟨0, false, [4, 5, 6, 7]⟩, ⟨0, false, [0, 1, 2, 3, 4, 5, 6, 7, 8]⟩, ⟨0, false, []⟩, ⟨0, false, [10]⟩, ⟨0, false, [10, 11]⟩, ⟨0, false, [10, 11, 12]⟩, ⟨0, false, [10, 11, 12, 13]⟩, ⟨0, false, [0, 1, 2, 3, 4, 5, 6, 7, 8, 9, 10, 11, 12, 13, 14]⟩, ⟨0, false, []⟩, ⟨0, false, [16]⟩, ⟨0, false, [16, 17]⟩, ⟨0, false, [16, 17, 18]⟩, ⟨0, false, [16, 17, 18, 19]⟩, ⟨0, false, [0, 1, 2, 3, 4, 5, 6, 7, 8, 9, 10, 11, 12, 13, 14, 15, 16, 17, 18, 19, 20]⟩, ⟨0, false, [0, 1, 2, 3, 4, 5, 6, 7, 8, 9, 10, 11, 12, 13, 14, 15, 16, 17, 18, 19, 20, 21]⟩] mix tt_ok (by kernel_rfl) ?_
  simp only [exOp_eq, exD_nil, exD_cons, nxD_eq, cur_eq, flI, ownB, stepQ, ev, ofV, lk, putT, erA, inB, opt, bnd, req, ret, onQ, ap, binG, binF, intF, Kd.elem, ixA, asI, ldP, ldC, ldS, Kd.agg, comps, csize, takeI, takeC, dropC, cvQ, and_true, true_and, and_self, Nat.reduceEqDiff, Nat.reduceLT, Nat.reduceLeDiff, Nat.reduceAdd, Nat.reduceSub, Int.reduceLE, Int.reduceToNat, Nat.sub_self, Nat.le_refl, if_true, if_false, Bool.false_eq_true, reduceCtorEq, Option.bind_some, Option.map_some, tt_5, tt_38, tt_24]
  repeat (refine ⟨by omega, ?_⟩)
  refine hK _ ?_
  clear hK K
  refine W.ret ?_
  simp only [fin_ret, finB, resQ, resV, leL, AV.nmIn, entsIn, lk, opt, bnd, req, ret, onQ, AV.isTup, and_true, true_and, and_self, Nat.reduceEqDiff, if_true, if_false, reduceCtorEq]
  simp [word4R]
theorem call39 : Callable Tryd.prog 39 := ⟨_, Tryd.func39, by kernel_rfl, by kernel_rfl⟩
theorem call32 : Callable Tryd.prog 32 := ⟨_, Tryd.func32, by kernel_rfl, by kernel_rfl⟩
theorem call33 : Callable Tryd.prog 33 := ⟨_, Tryd.func33, by kernel_rfl, by kernel_rfl⟩
theorem xor32 (x y : Int) : 0 ≤ bits .xor .u32 x y ∧ bits .xor .u32 x y < 4294967296 := by unfold bits; exact wrap32 _
/-- The reference's quarter. -/
def qa (a b : Int) : Int := IntKind.u32.wrap (a + b)
def qd (d a : Int) (n : Nat) : Int := turnN (bits .xor .u32 d a) n
def qrR (w : List Int) (i j k l : Nat) : List Int :=
  let a := w.getD i 0; let b := w.getD j 0; let c := w.getD k 0; let d := w.getD l 0
  let a1 := qa a b; let d1 := qd d a1 16; let c1 := qa c d1; let b1 := qd b c1 12
  let a2 := qa a1 b1; let d2 := qd d1 a2 8; let c2 := qa c1 d2; let b2 := qd b1 c2 7
  (((w.set i a2).set j b2).set k c2).set l d2
theorem quarterR_fn (w : List Int) (i j k l : Nat) (hw : w.length = 16) (hi : i < 16) (hj : j < 16) (hk : k < 16) (hl : l < 16) :
    FnR Tryd.prog G 33 [.lstI .u32 w, .int .i64 i, .int .i64 j, .int .i64 k, .int .i64 l] [] (.sl 1000 1 0 16) [(1000, .vec 38 (.ints .u32 (qrR w i j k l)))] := by
  refine FnR.of_walk (m := 80) (n0 := 0) tt_ok Tryd.func33 rfl rfl (by simp) (by simp [nmH]) ?_
  rw [show Tryd.f33.results.toList = [.tmp 10] from rfl]
  refine W.seqK fun K hK => W.regionK tt_ok ?_
  simp only [exOps_nil, exOps_cons, exOp_eq, nx_eq, cur_eq, stepQ, ev, ofV, parT, putT, erA, inB, opt, ret, onQ, ap, true_and, Nat.reduceEqDiff, Nat.reduceLT, Nat.reduceAdd, Nat.zero_add, if_false, reduceCtorEq]
  refine hK _ ?_
  clear hK K
  refine W.seqK fun K hK => W.drawK [⟨0, false, []⟩, ⟨0, false, []⟩, ⟨0, false, [0, 1]⟩, ⟨0, false, [0, 1, 2]⟩, ⟨0, false, []⟩, ⟨0, false, []⟩, ⟨0, false, [4, 5]⟩, ⟨0, false, [4, 5, 6]⟩, ⟨0, false, []⟩, ⟨0, false, []⟩, ⟨0, false, [8, 9]⟩, ⟨0, false, [8, 9, 10]⟩, ⟨0, false, []⟩, ⟨0, false, []⟩, ⟨0, false, [12, 13]⟩, ⟨0, false, [12, 13, 14]⟩, ⟨0, false, [0, 1, 2, 3]⟩, ⟨0, false, [0, 1, 2, 3, 4, 5, 6, 7, 16]⟩, ⟨0, false, [0, 1, 2, 3, 4, 5, 6, 7, 8, 9, 10, 11, 16, 17]⟩, ⟨0, false, [0, 1, 2, 3, 4, 5, 6, 7, 8, 9, 10, 11, 12, 13, 14, 15, 16, 17, 18]⟩] mix tt_ok (by kernel_rfl) ?_
  simp only [exOp_eq, exD_nil, exD_cons, nxD_eq, cur_eq, flI, ownB, stepQ, ev, lk, putT, erA, inB, opt, bnd, req, ret, onQ, ap, Kd.elem, ixA, asI, ldP, ldC, ldS, Kd.agg, comps, csize, takeI, takeC, dropC, and_true, true_and, and_self, Nat.reduceEqDiff, Nat.reduceLT, Nat.reduceLeDiff, Nat.reduceAdd, Nat.reduceSub, Nat.sub_self, Int.toNat_natCast, Nat.le_refl, if_true, if_false, Bool.false_eq_true, reduceCtorEq, Option.bind_some, Option.map_some, tt_38, tt_60]
  repeat (refine ⟨by omega, ?_⟩)
  refine hK _ ?_
  clear hK K
  obtain ⟨a, ha⟩ : ∃ a, w.getD i 0 = a := ⟨_, rfl⟩
  obtain ⟨b, hb⟩ : ∃ a, w.getD j 0 = a := ⟨_, rfl⟩
  obtain ⟨c, hc⟩ : ∃ a, w.getD k 0 = a := ⟨_, rfl⟩
  obtain ⟨d, hd⟩ : ∃ a, w.getD l 0 = a := ⟨_, rfl⟩
  simp only [ha, hb, hc, hd]
  refine W.weak ⟨[(0, .lstI .u32 w), (1, .int .i64 i), (2, .int .i64 j), (3, .int .i64 k), (4, .int .i64 l), (11, .int .u32 a), (12, .int .u32 b), (13, .int .u32 c), (14, .int .u32 d)], [], 400, 80⟩ (by simp [wk, leL, lk, nmT, nmE, nmH, AV.nmIn]) ?_
  refine W.seqK fun K hK => W.regionK tt_ok ?_
  simp only [exOps_nil, exOps_cons, exOp_eq, nx_eq, cur_eq, stepQ, ev, lk, putT, erA, inB, opt, bnd, req, ret, onQ, ap, binG, binF, intF, true_and, and_self, Nat.reduceEqDiff, Nat.reduceLT, Nat.reduceAdd, if_true, if_false, reduceCtorEq]
  refine hK _ ?_
  clear hK K
  refine W.seqK fun K hK => W.regionK tt_ok ?_
  simp only [exOps_cons, exOp_eq, exCall_eq, nx_eq, cur_eq, evL, stepQ, ev, ofV, lk, putT, erA, inB, opt, bnd, req, ret, onQ, ap, binG, binF, intF, true_and, and_self, Nat.reduceEqDiff, Nat.reduceLT, Nat.reduceAdd, if_true, if_false, reduceCtorEq, Option.bind_some, Option.map_some]
  refine CallK.pure _ _ (turn_fn _ 16 (xor32 _ _) (by omega)) call39 (by simp only [AV.nmIn, bnd, req, ret, onQ, AV.isTup, isTupL, true_and, and_self, Bool.false_eq_true, List.append_nil, vw.vwL, vw, AV.free, Bool.or_self]; all_goals (and_intros <;> first | exact AV.subL_refl _ | omega | rfl | (simp []; done) | (simp; exact AV.subL_refl _) | (simp [AV.subL, AV.sub]; done))) ?_
  simp only [exOps_nil, exOps_cons, exOp_eq, nx_eq, cur_eq, stepQ, ev, lk, putT, erA, inB, opt, ret, onQ, ap, true_and, Nat.reduceEqDiff, Nat.reduceLT, Nat.reduceAdd, if_true, if_false, reduceCtorEq]
  refine hK _ ?_
  clear hK K
  refine W.seqK fun K hK => W.regionK tt_ok ?_
  simp only [exOps_nil, exOps_cons, exOp_eq, nx_eq, cur_eq, stepQ, ev, lk, putT, erA, inB, opt, bnd, req, ret, onQ, ap, binG, binF, intF, true_and, and_self, Nat.reduceEqDiff, Nat.reduceLT, Nat.reduceAdd, if_true, if_false, reduceCtorEq]
  refine hK _ ?_
  clear hK K
  refine W.seqK fun K hK => W.regionK tt_ok ?_
  simp only [exOps_cons, exOp_eq, exCall_eq, nx_eq, cur_eq, evL, stepQ, ev, ofV, lk, putT, erA, inB, opt, bnd, req, ret, onQ, ap, binG, binF, intF, true_and, and_self, Nat.reduceEqDiff, Nat.reduceLT, Nat.reduceAdd, if_true, if_false, reduceCtorEq, Option.bind_some, Option.map_some]
  refine CallK.pure _ _ (turn_fn _ 12 (xor32 _ _) (by omega)) call39 (by simp only [AV.nmIn, bnd, req, ret, onQ, AV.isTup, isTupL, true_and, and_self, Bool.false_eq_true, List.append_nil, vw.vwL, vw, AV.free, Bool.or_self]; all_goals (and_intros <;> first | exact AV.subL_refl _ | omega | rfl | (simp []; done) | (simp; exact AV.subL_refl _) | (simp [AV.subL, AV.sub]; done))) ?_
  simp only [exOps_nil, exOps_cons, exOp_eq, nx_eq, cur_eq, stepQ, ev, lk, putT, erA, inB, opt, ret, onQ, ap, true_and, Nat.reduceEqDiff, Nat.reduceLT, Nat.reduceAdd, if_true, if_false, reduceCtorEq]
  refine hK _ ?_
  clear hK K
  refine W.seqK fun K hK => W.regionK tt_ok ?_
  simp only [exOps_nil, exOps_cons, exOp_eq, nx_eq, cur_eq, stepQ, ev, lk, putT, erA, inB, opt, bnd, req, ret, onQ, ap, binG, binF, intF, true_and, and_self, Nat.reduceEqDiff, Nat.reduceLT, Nat.reduceAdd, if_true, if_false, reduceCtorEq]
  refine hK _ ?_
  clear hK K
  refine W.seqK fun K hK => W.regionK tt_ok ?_
  simp only [exOps_cons, exOp_eq, exCall_eq, nx_eq, cur_eq, evL, stepQ, ev, ofV, lk, putT, erA, inB, opt, bnd, req, ret, onQ, ap, binG, binF, intF, true_and, and_self, Nat.reduceEqDiff, Nat.reduceLT, Nat.reduceAdd, if_true, if_false, reduceCtorEq, Option.bind_some, Option.map_some]
  refine CallK.pure _ _ (turn_fn _ 8 (xor32 _ _) (by omega)) call39 (by simp only [AV.nmIn, bnd, req, ret, onQ, AV.isTup, isTupL, true_and, and_self, Bool.false_eq_true, List.append_nil, vw.vwL, vw, AV.free, Bool.or_self]; all_goals (and_intros <;> first | exact AV.subL_refl _ | omega | rfl | (simp []; done) | (simp; exact AV.subL_refl _) | (simp [AV.subL, AV.sub]; done))) ?_
  simp only [exOps_nil, exOps_cons, exOp_eq, nx_eq, cur_eq, stepQ, ev, lk, putT, erA, inB, opt, ret, onQ, ap, true_and, Nat.reduceEqDiff, Nat.reduceLT, Nat.reduceAdd, if_true, if_false, reduceCtorEq]
  refine hK _ ?_
  clear hK K
  refine W.seqK fun K hK => W.regionK tt_ok ?_
  simp only [exOps_nil, exOps_cons, exOp_eq, nx_eq, cur_eq, stepQ, ev, lk, putT, erA, inB, opt, bnd, req, ret, onQ, ap, binG, binF, intF, true_and, and_self, Nat.reduceEqDiff, Nat.reduceLT, Nat.reduceAdd, if_true, if_false, reduceCtorEq]
  refine hK _ ?_
  clear hK K
  refine W.seqK fun K hK => W.regionK tt_ok ?_
  simp only [exOps_cons, exOp_eq, exCall_eq, nx_eq, cur_eq, evL, stepQ, ev, ofV, lk, putT, erA, inB, opt, bnd, req, ret, onQ, ap, binG, binF, intF, true_and, and_self, Nat.reduceEqDiff, Nat.reduceLT, Nat.reduceAdd, if_true, if_false, reduceCtorEq, Option.bind_some, Option.map_some]
  refine CallK.pure _ _ (turn_fn _ 7 (xor32 _ _) (by omega)) call39 (by simp only [AV.nmIn, bnd, req, ret, onQ, AV.isTup, isTupL, true_and, and_self, Bool.false_eq_true, List.append_nil, vw.vwL, vw, AV.free, Bool.or_self]; all_goals (and_intros <;> first | exact AV.subL_refl _ | omega | rfl | (simp []; done) | (simp; exact AV.subL_refl _) | (simp [AV.subL, AV.sub]; done))) ?_
  simp only [exOps_nil, exOps_cons, exOp_eq, nx_eq, cur_eq, stepQ, ev, lk, putT, erA, inB, opt, ret, onQ, ap, true_and, Nat.reduceEqDiff, Nat.reduceLT, Nat.reduceAdd, if_true, if_false, reduceCtorEq]
  refine hK _ ?_
  clear hK K
  obtain ⟨A, hA⟩ : ∃ x, qa (qa a b) (qd b (qa c (qd d (qa a b) 16)) 12) = x := ⟨_, rfl⟩
  obtain ⟨B, hB⟩ : ∃ x, qd (qd b (qa c (qd d (qa a b) 16)) 12) (qa (qa c (qd d (qa a b) 16)) (qd (qd d (qa a b) 16) (qa (qa a b) (qd b (qa c (qd d (qa a b) 16)) 12)) 8)) 7 = x := ⟨_, rfl⟩
  obtain ⟨C, hC⟩ : ∃ x, qa (qa c (qd d (qa a b) 16)) (qd (qd d (qa a b) 16) (qa (qa a b) (qd b (qa c (qd d (qa a b) 16)) 12)) 8) = x := ⟨_, rfl⟩
  obtain ⟨D, hD⟩ : ∃ x, qd (qd d (qa a b) 16) (qa (qa a b) (qd b (qa c (qd d (qa a b) 16)) 12)) 8 = x := ⟨_, rfl⟩
  refine W.weak ⟨[(0, .lstI .u32 w), (1, .int .i64 i), (2, .int .i64 j), (3, .int .i64 k), (4, .int .i64 l), (11, .int .u32 A), (12, .int .u32 B), (13, .int .u32 C), (14, .int .u32 D)], [], 968, 80⟩ (by simp [wk, leL, lk, nmT, nmE, nmH, AV.nmIn, ← hA, ← hB, ← hC, ← hD, qa, qd]) ?_
  have hres : qrR w i j k l = (((w.set i A).set j B).set k C).set l D := by
    subst hA hB hC hD
    subst ha hb hc hd
    rfl
  rw [hres]
  have hw0 : ¬ w.length = 0 := by omega
  refine W.seqK fun K hK => W.regionK tt_ok ?_
  simp only [exOps_nil, exOps_cons, exOp_eq, exCall_eq, nx_eq, cur_eq, evL, evP, stepQ, ev, lk, putT, erA, inB, opt, bnd, req, ret, onQ, ap, up, er, intsOf, bltQ, bltV, appQ, appV, srcQ, rowOf, Row.len, Row.sz, Row.take, Row.app, bldA, bslQ, zeroCs, cellsRow, and_true, true_and, and_self, or_false, Nat.reduceEqDiff, Nat.reduceLT, Nat.reduceLeDiff, Nat.reduceAdd, Nat.reduceMul, Nat.zero_le, Nat.zero_add, if_true, if_false, reduceCtorEq, Option.bind_some, Option.map_some, List.append_nil, tt_38, tt_60, hw, Nat.zero_add]
  refine ⟨by simp, ?_⟩
  rw [List.take_zero, List.nil_append]
  refine hK _ ?_
  clear hK K
  refine W.seqK fun K hK => W.regionK tt_ok ?_
  simp only [exOps_nil, exOps_cons, exOp_eq, nx_eq, cur_eq, stepQ, ev, lk, putT, erA, inB, opt, bnd, req, ret, onQ, ap, up, er, Kd.elem, ixA, asI, stP, stE, and_true, true_and, Nat.reduceEqDiff, Nat.reduceLT, Nat.reduceAdd, Int.toNat_natCast, Nat.zero_add, if_true, if_false, reduceCtorEq, tt_38, tt_60, hw]
  repeat (refine ⟨by omega, ?_⟩)
  refine hK _ ?_
  clear hK K
  refine W.seqK fun K hK => W.regionK tt_ok ?_
  simp only [exOps_nil, exOps_cons, exOp_eq, nx_eq, cur_eq, stepQ, ev, lk, putT, erA, inB, opt, bnd, req, ret, onQ, ap, up, er, Kd.elem, ixA, asI, stP, stE, and_true, true_and, Nat.reduceEqDiff, Nat.reduceLT, Nat.reduceAdd, Int.toNat_natCast, Nat.zero_add, if_true, if_false, reduceCtorEq, tt_38, tt_60, hw, List.length_set]
  repeat (refine ⟨by omega, ?_⟩)
  refine hK _ ?_
  clear hK K
  refine W.seqK fun K hK => W.regionK tt_ok ?_
  simp only [exOps_nil, exOps_cons, exOp_eq, nx_eq, cur_eq, stepQ, ev, lk, putT, erA, inB, opt, bnd, req, ret, onQ, ap, up, er, Kd.elem, ixA, asI, stP, stE, and_true, true_and, Nat.reduceEqDiff, Nat.reduceLT, Nat.reduceAdd, Int.toNat_natCast, Nat.zero_add, if_true, if_false, reduceCtorEq, tt_38, tt_60, hw, List.length_set]
  repeat (refine ⟨by omega, ?_⟩)
  refine hK _ ?_
  clear hK K
  refine W.seqK fun K hK => W.regionK tt_ok ?_
  simp only [exOps_nil, exOps_cons, exOp_eq, nx_eq, cur_eq, stepQ, ev, lk, putT, erA, inB, opt, bnd, req, ret, onQ, ap, up, er, Kd.elem, ixA, asI, stP, stE, and_true, true_and, Nat.reduceEqDiff, Nat.reduceLT, Nat.reduceAdd, Int.toNat_natCast, Nat.zero_add, if_true, if_false, reduceCtorEq, tt_38, tt_60, hw, List.length_set]
  repeat (refine ⟨by omega, ?_⟩)
  refine hK _ ?_
  clear hK K
  refine W.seqK fun K hK => W.regionK tt_ok ?_
  simp only [exOps_nil, exOps_cons, exOp_eq, nx_eq, cur_eq, stepQ, ev, lk, putT, erA, inB, opt, ret, onQ, ap, true_and, Nat.reduceEqDiff, Nat.reduceLT, Nat.reduceAdd, if_true, if_false, reduceCtorEq]
  refine hK _ ?_
  clear hK K
  refine W.ret ?_
  simp only [fin_ret, finB, resQ, resV, leL, AV.nmIn, entsIn, lk, opt, bnd, req, ret, onQ, AV.isTup, and_true, true_and, and_self, Nat.reduceEqDiff, if_true, if_false, reduceCtorEq]
  simp [Nm, lk, Ent.nmIn, Row.nmIn]
theorem quarterR_at (X : Nat) (w : List Int) (i j k l : Nat) (hw : w.length = 16) (hi : i < 16) (hj : j < 16) (hk : k < 16) (hl : l < 16) :
    FnR Tryd.prog G 33 [.lstI .u32 w, .int .i64 i, .int .i64 j, .int .i64 k, .int .i64 l] [] (.sl X 1 0 16) [(X, .vec 38 (.ints .u32 (qrR w i j k l)))] := by
  have h := (quarterR_fn w i j k l hw hi hj hk hl).rename 1000 X
  simpa [AV.map, swp, enMap, Ent.map, Row.map] using h
end Go.Proofs.YtakgcmponelbeaaDoor.Sm
