/- RotateLeft32 by a negative number, turned. -/
import Derived.Test.YtbefcdgjainflaaHsB
-- TT 3 66 105 109
set_option linter.unusedVariables false
set_option linter.unusedSectionVars false
set_option linter.unusedSimpArgs false
namespace Go.Proofs.Ytbefcdgjainflaa
open Sx
variable [Inhabited Tabs]
set_option maxRecDepth 100000
set_option maxHeartbeats 2000000
def rotN (x : Int) (k : Nat) : Int := bits .or .u32 (IntKind.u32.wrap (x * 2 ^ min k 32)) (x.fdiv (2 ^ min (32 - k) 32))
theorem neg31 : ∀ k : Nat, k < 32 → 0 < k → bits .and .u64 (IntKind.u64.wrap (-(k : Int))) 31 = ((32 - k : Nat) : Int) := by decide
theorem rot_fn (x : Int) (k : Nat) (hk : k < 32) (h0 : 0 < k) : FnR Try.prog G 57 [.int .u32 x, .int .i64 (-(k : Int))] [] (.int .u32 (rotN x (32 - k))) [] := by
  refine FnR.of_walk (m := 17) (n0 := 0) tt_ok Try.func57 rfl rfl (by simp) (by simp [nmH]) ?_
  rw [show Try.f57.results.toList = [.tmp 4] from rfl]
  refine W.seqK fun K hK => W.regionK tt_ok ?_
  simp only [exOps_nil, exOps_cons, exOp_eq, nx_eq, cur_eq, stepQ, ev, ofV, parT, putT, erA, inB, opt, ret, onQ, ap, true_and, Nat.reduceEqDiff, Nat.reduceLT, Nat.zero_add, if_false, reduceCtorEq]
  refine hK _ ?_
  clear hK K
  refine W.seqK fun K hK => W.regionK tt_ok ?_
  simp only [exOps_nil, exOps_cons, exOp_eq, nx_eq, cur_eq, stepQ, ev, ofV, lk, putT, erA, inB, opt, bnd, req, ret, onQ, ap, binI, binG, binF, intF, cvQ, true_and, and_self, Nat.reduceEqDiff, Nat.reduceLT, Nat.reduceAdd, if_true, if_false, reduceCtorEq, tt_3, tt_105]
  refine hK _ ?_
  clear hK K
  have h1 := neg31 k hk h0
  have h2 : IntKind.u64.wrap (32 - ((32 - k : Nat) : Int)) = ((32 - (32 - k) : Nat) : Int) := by rw [IntKind.wrap_u64]; omega
  have h3 : IntKind.u32.bits = 32 := rfl
  refine W.seqK fun K hK => W.regionK tt_ok ?_
  simp only [exOps_nil, exOps_cons, exOp_eq, nx_eq, cur_eq, stepQ, ev, ofV, lk, putT, erA, inB, opt, bnd, req, ret, onQ, ap, binI, binG, binF, intF, shiftF, and_true, true_and, and_self, Nat.reduceEqDiff, Nat.reduceLT, Nat.reduceAdd, Int.toNat_natCast, if_true, if_false, reduceCtorEq, h1, h2, h3]
  repeat (refine ⟨by omega, ?_⟩)
  refine hK _ ?_
  clear hK K
  refine W.ret ?_
  simp only [fin_ret, finB, resQ, resV, leL, AV.nmIn, entsIn, lk, opt, bnd, req, ret, onQ, AV.isTup, and_true, true_and, and_self, Nat.reduceEqDiff, if_true, if_false, reduceCtorEq]
  simp [rotN]
theorem call57 : Callable Try.prog 57 := ⟨_, Try.func57, by kernel_rfl, by kernel_rfl⟩
/-- Turned by the first amounts, all of them together. -/
def tuN (x : Int) (ns : List Int) : Nat → Int
  | 0 => 0
  | i + 1 => bits .xor .u32 (tuN x ns i) (rotN x (32 - (ns.getD i 0).toNat))
theorem turned_fn (x : Int) (ns : List Int) (hn : ∀ i, i < ns.length → 0 < ns.getD i 0 ∧ ns.getD i 0 < 32) (hl : ns.length < 100) :
    FnR Try.prog G 56 [.int .u32 x, .lstI .i64 ns] [] (.int .u32 (tuN x ns ns.length)) [] := by
  refine FnR.of_walk (m := 22) (n0 := 0) tt_ok Try.func56 rfl rfl (by simp) (by simp [nmH]) ?_
  rw [show Try.f56.results.toList = [.tmp 4] from rfl]
  refine W.seqK fun K hK => W.regionK tt_ok ?_
  simp only [exOps_nil, exOps_cons, exOp_eq, nx_eq, cur_eq, stepQ, ev, ofV, parT, putT, erA, inB, opt, ret, onQ, ap, true_and, Nat.reduceEqDiff, Nat.reduceLT, Nat.zero_add, if_false, reduceCtorEq]
  refine hK _ ?_
  clear hK K
  refine W.seqK fun K hK => W.regionK tt_ok ?_
  simp only [exOps_nil, exOps_cons, exOp_eq, nx_eq, cur_eq, stepQ, ev, ofV, putT, erA, inB, opt, ret, onQ, ap, true_and, Nat.reduceEqDiff, Nat.reduceLT, Nat.reduceAdd, if_false, reduceCtorEq]
  refine hK _ ?_
  clear hK K
  refine W.seqK fun Kz hKz => ?_
  refine W.seqK fun K hK => W.regionK tt_ok ?_
  simp only [exOps_nil, exOps_cons, exOp_eq, exCall_eq, nx_eq, cur_eq, evL, stepQ, ev, ofV, lk, putT, erA, inB, opt, bnd, req, ret, onQ, ap, bltQ, bltV, lenF, true_and, and_self, or_false, Nat.reduceEqDiff, Nat.reduceLT, Nat.reduceAdd, if_true, if_false, reduceCtorEq, List.getElem?_cons_zero, Option.bind_some, Option.map_some, tt_109]
  refine hK _ ?_
  clear hK K
  refine W.blockK ?_
  refine W.loopK (fun k : Nat => k ≤ ns.length) (fun k => ⟨[(0, .int .u32 x), (5, .int .u32 (tuN x ns k)), (8, .lstI .i64 ns), (9, .int .i64 ns.length), (10, .int .i64 (k : Int))], [], 1024, 22⟩) (fun k => ns.length - k) 0 (by simp) (by simp [tuN, wk, leL, lk, nmT, nmE, nmH, AV.nmIn]) ?_
  intro k hk K3 hK3
  by_cases hlt : k < ns.length
  · have c1 : (k : Int) < ns.length := by omega
    obtain ⟨h0, h1⟩ := hn k hlt
    obtain ⟨m, hm⟩ : ∃ m : Nat, ns.getD k 0 = m := ⟨_, (Int.toNat_of_nonneg (by omega)).symm⟩
    have hr := rot_fn x m (by omega) (by omega)
    have hwn : IntKind.i64.wrap (0 - (m : Int)) = -(m : Int) := by rw [IntKind.wrap_i64]; omega
    have hT : tuN x ns (k + 1) = bits .xor .u32 (tuN x ns k) (rotN x (32 - m)) := by rw [tuN, hm]; rfl
    refine W.seqK fun K hK => W.regionK tt_ok ?_
    simp only [decide_true, exOps_nil, exOps_cons, exOp_eq, nx_eq, cur_eq, stepQ, ev, lk, putT, erA, inB, opt, bnd, req, ret, onQ, ap, binI, binG, binF, intF, true_and, and_self, Nat.reduceEqDiff, Nat.reduceLT, Nat.reduceAdd, if_true, if_false, reduceCtorEq, c1]
    refine hK _ ?_
    clear hK K
    refine W.seqK fun K hK => W.cond (b := true) (by simp only [ev, lk, Nat.reduceEqDiff, if_true, if_false, reduceCtorEq]) (fun _ => W.skip ?_) (fun h => absurd h (by simp))
    rw [thn_normal]
    refine hK _ ?_
    clear hK K
    refine W.seqK fun K hK => W.blockK ?_
    refine W.seqK fun K hK => W.regionK tt_ok ?_
    simp only [exOps_nil, exOps_cons, exOp_eq, nx_eq, cur_eq, stepQ, ev, lk, putT, erA, inB, opt, bnd, req, ret, onQ, ap, Kd.elem, ixA, asI, ldP, ldC, ldS, Kd.agg, comps, csize, takeI, takeC, dropC, and_true, true_and, and_self, Nat.reduceEqDiff, Nat.reduceLT, Nat.reduceLeDiff, Nat.reduceAdd, Nat.reduceSub, Nat.sub_self, Int.toNat_natCast, Nat.le_refl, if_true, if_false, Bool.false_eq_true, reduceCtorEq, Option.bind_some, Option.map_some, tt_3, tt_109]
    repeat (refine ⟨by omega, ?_⟩)
    refine hK _ ?_
    clear hK K
    refine W.region tt_ok ?_
    simp only [exOps_cons, exOp_eq, exCall_eq, nx_eq, cur_eq, evL, stepQ, ev, lk, putT, erA, inB, opt, bnd, req, ret, onQ, ap, unF, true_and, and_self, Nat.reduceEqDiff, Nat.reduceLT, Nat.reduceAdd, if_true, if_false, reduceCtorEq, Option.bind_some, Option.map_some, hm, hwn]
    refine CallK.pure _ _ hr call57 (by simp only [AV.nmIn, bnd, req, ret, onQ, AV.isTup, isTupL, true_and, and_self, Bool.false_eq_true, List.append_nil, vw.vwL, vw, AV.free, Bool.or_self]; all_goals (and_intros <;> first | exact AV.subL_refl _ | omega | (simp [AV.sub]; done) | rfl | (simp [AV.subL_refl]; done) | (simp; exact AV.subL_refl _))) ?_
    simp only [exOps_nil, exOps_cons, exOp_eq, nx_eq, cur_eq, stepQ, ev, lk, putT, erA, inB, opt, bnd, req, ret, onQ, ap, binI, binG, binF, intF, thn_normal, inb_normal, true_and, and_self, Nat.reduceEqDiff, Nat.reduceLT, Nat.reduceAdd, if_true, if_false, reduceCtorEq]
    refine hK _ ?_
    clear hK K
    refine W.region tt_ok ?_
    simp only [exOps_nil, exOps_cons, exOp_eq, nx_eq, cur_eq, stepQ, ev, ofV, lk, putT, erA, inB, opt, bnd, req, ret, onQ, ap, binI, binG, binF, intF, thn_normal, true_and, and_self, Nat.reduceEqDiff, Nat.reduceLT, Nat.reduceAdd, if_true, if_false, reduceCtorEq, wrap_up k (by omega)]
    refine hK3 _ (k + 1) (by omega) (by omega) ?_
    simp [hT, wk, leL, lk, nmT, nmE, nmH, AV.nmIn]
  have hk' : k = ns.length := by omega
  subst hk'
  have c1 : ¬ ((ns.length : Int) < ns.length) := by omega
  refine W.seqK fun K hK => W.regionK tt_ok ?_
  simp only [decide_false, exOps_nil, exOps_cons, exOp_eq, nx_eq, cur_eq, stepQ, ev, lk, putT, erA, inB, opt, bnd, req, ret, onQ, ap, binI, binG, binF, intF, true_and, and_self, Nat.reduceEqDiff, Nat.reduceLT, Nat.reduceAdd, if_true, if_false, reduceCtorEq, c1]
  refine hK _ ?_
  clear hK K
  refine W.seqK fun K hK => W.cond (b := false) (by simp only [ev, lk, Nat.reduceEqDiff, if_true, if_false, reduceCtorEq]) (fun h => absurd h (by simp)) (fun _ => W.exit ?_)
  simp only [thn_normal, thn_exit, inb_exit, if_true]
  refine hKz _ ?_
  refine W.seqK fun K hK => W.regionK tt_ok ?_
  simp only [exOps_nil, exOps_cons, exOp_eq, nx_eq, cur_eq, stepQ, ev, lk, putT, erA, inB, opt, ret, onQ, ap, true_and, Nat.reduceEqDiff, Nat.reduceLT, Nat.reduceAdd, if_true, if_false, reduceCtorEq]
  refine hK _ ?_
  clear hK K
  refine W.ret ?_
  simp only [fin_ret, finB, resQ, resV, leL, AV.nmIn, entsIn, lk, opt, bnd, req, ret, onQ, AV.isTup, and_self, Nat.reduceEqDiff, if_true, if_false, reduceCtorEq]
end Go.Proofs.Ytbefcdgjainflaa
