/- The stream's words: RotateLeft32, word, quarter. -/
import Derived.Test.YtakgcmponelbeaaDoorAeB
import Derived.Test.YtakgcmponelbeaaDoorPlB
import Derived.Laws.BitsLemmas
-- TT 3 5 38 24 59 71 77 78
set_option linter.unusedVariables false
set_option linter.unusedSimpArgs false
namespace Go.Proofs.YtakgcmponelbeaaDoor.Sm
open Sx
set_option maxRecDepth 100000
set_option maxHeartbeats 2000000

/-! ### RotateLeft32 -/

def rotN (x : Int) (k : Nat) : Int := bits .or .u32 (IntKind.u32.wrap (x * 2 ^ min k 32)) (x.fdiv (2 ^ min (32 - k) 32))
theorem and31 (k : Nat) (hk : k < 32) : bits .and .u64 (IntKind.u64.wrap (k : Int)) 31 = k := by
  rw [IntKind.wrap_u64, Int.emod_eq_of_lt (by omega) (by omega), show (31 : Int) = ((31 : Nat) : Int) from rfl, bits_and rfl (by simp [IntKind.bits]; omega) (by simp [IntKind.bits])]
  rw [show (31 : Nat) = 2 ^ 5 - 1 from rfl, Nat.and_two_pow_sub_one_eq_mod, Nat.mod_eq_of_lt (by omega)]
theorem rot_fn (x : Int) (k : Nat) (hk : k < 32) : FnR Tryd.prog G 36 [.int .u32 x, .int .i64 k] [] (.int .u32 (rotN x k)) [] := by
  refine FnR.of_walk (m := 17) (n0 := 0) tt_ok Tryd.func36 rfl rfl (by simp) (by simp [nmH]) ?_
  rw [show Tryd.f36.results.toList = [.tmp 4] from rfl]
  refine W.seqK fun K hK => W.regionK tt_ok ?_
  simp only [exOps_nil, exOps_cons, exOp_eq, nx_eq, cur_eq, stepQ, ev, ofV, parT, putT, erA, inB, opt, ret, onQ, ap, true_and, Nat.reduceEqDiff, Nat.reduceLT, Nat.zero_add, if_false, reduceCtorEq]
  refine hK _ ?_
  clear hK K
  refine W.seqK fun K hK => W.regionK tt_ok ?_
  simp only [exOps_nil, exOps_cons, exOp_eq, nx_eq, cur_eq, stepQ, ev, ofV, lk, putT, erA, inB, opt, bnd, req, ret, onQ, ap, binG, binF, intF, cvQ, true_and, and_self, Nat.reduceEqDiff, Nat.reduceLT, Nat.reduceAdd, if_true, if_false, reduceCtorEq, tt_3, tt_71]
  refine hK _ ?_
  clear hK K
  have h1 := and31 k hk
  have h2 : IntKind.u64.wrap (32 - (k : Int)) = ((32 - k : Nat) : Int) := by rw [IntKind.wrap_u64]; omega
  have h3 : IntKind.u32.bits = 32 := rfl
  refine W.seqK fun K hK => W.regionK tt_ok ?_
  simp only [exOps_nil, exOps_cons, exOp_eq, nx_eq, cur_eq, stepQ, ev, ofV, lk, putT, erA, inB, opt, bnd, req, ret, onQ, ap, binG, binF, intF, shiftF, and_true, true_and, and_self, Nat.reduceEqDiff, Nat.reduceLT, Nat.reduceAdd, Int.toNat_natCast, if_true, if_false, reduceCtorEq, h1, h2, h3]
  repeat (refine ⟨by omega, ?_⟩)
  refine hK _ ?_
  clear hK K
  refine W.ret ?_
  simp only [fin_ret, finB, resQ, resV, leL, AV.nmIn, entsIn, lk, opt, bnd, req, ret, onQ, AV.isTup, and_true, true_and, and_self, Nat.reduceEqDiff, if_true, if_false, reduceCtorEq]
  simp [rotN]
def word4 (xs : List Int) : Int :=
  bits .or .u32 (bits .or .u32 (bits .or .u32 (IntKind.u32.wrap (xs.getD 0 0)) (IntKind.u32.wrap (IntKind.u32.wrap (xs.getD 1 0) * 2 ^ min 8 IntKind.u32.bits))) (IntKind.u32.wrap (IntKind.u32.wrap (xs.getD 2 0) * 2 ^ min 16 IntKind.u32.bits)))
    (IntKind.u32.wrap (IntKind.u32.wrap (xs.getD 3 0) * 2 ^ min 24 IntKind.u32.bits))
theorem word_fn (xs : List Int) (h : 4 ≤ xs.length) : FnR Tryd.prog G 27 [.lstI .u8 xs] [] (.int .u32 (word4 xs)) [] := by
  refine FnR.of_walk (m := 25) (n0 := 0) tt_ok Tryd.func27 rfl rfl (by simp) (by simp [nmH]) ?_
  rw [show Tryd.f27.results.toList = [.tmp 2] from rfl]
  refine W.seqK fun K hK => W.regionK tt_ok ?_
  simp only [exOps_nil, exOps_cons, exOp_eq, nx_eq, cur_eq, stepQ, ev, ofV, parT, putT, erA, inB, opt, ret, onQ, ap, true_and, Nat.reduceLT, Nat.zero_add, if_false, reduceCtorEq]
  refine hK _ ?_
  clear hK K
  refine W.seqK fun K hK => W.drawK [⟨0, false, []⟩, ⟨0, false, [0]⟩, ⟨0, false, [0, 1]⟩, ⟨0, false, [0, 1, 2]⟩, ⟨0, false, []⟩, ⟨0, false, [4]⟩, ⟨0, false, [4, 5]⟩, ⟨0, false, [4, 5, 6]⟩, ⟨0, false, [4, 5, 6, 7]⟩, ⟨0, false, [0, 1, 2, 3, 4, 5, 6, 7, 8]⟩, ⟨0, false, []⟩, ⟨0, false, [10]⟩, ⟨0, false, [10, 11]⟩, ⟨0, false, [10, 11, 12]⟩, ⟨0, false, [10, 11, 12, 13]⟩, ⟨0, false, [0, 1, 2, 3, 4, 5, 6, 7, 8, 9, 10, 11, 12, 13, 14]⟩, ⟨0, false, []⟩, ⟨0, false, [16]⟩, ⟨0, false, [16, 17]⟩, ⟨0, false, [16, 17, 18]⟩, ⟨0, false, [16, 17, 18, 19]⟩, ⟨0, false, [0, 1, 2, 3, 4, 5, 6, 7, 8, 9, 10, 11, 12, 13, 14, 15, 16, 17, 18, 19, 20]⟩, ⟨0, false, [0, 1, 2, 3, 4, 5, 6, 7, 8, 9, 10, 11, 12, 13, 14, 15, 16, 17, 18, 19, 20, 21]⟩] mix tt_ok (by kernel_rfl) ?_
  simp only [exOp_eq, exD_nil, exD_cons, nxD_eq, cur_eq, flI, ownB, stepQ, ev, ofV, lk, putT, erA, inB, opt, bnd, req, ret, onQ, ap, binG, binF, intF, shiftF, Kd.elem, ixA, asI, ldP, ldC, ldS, Kd.agg, comps, csize, takeI, takeC, dropC, cvQ, and_true, true_and, and_self, Nat.reduceEqDiff, Nat.reduceLT, Nat.reduceLeDiff, Nat.reduceAdd, Nat.reduceSub, Int.reduceLE, Int.reduceToNat, Nat.sub_self, Nat.le_refl, if_true, if_false, Bool.false_eq_true, reduceCtorEq, Option.bind_some, Option.map_some, tt_5, tt_38, tt_24]
  repeat (refine ⟨by omega, ?_⟩)
  refine hK _ ?_
  clear hK K
  refine W.ret ?_
  simp only [fin_ret, finB, resQ, resV, leL, AV.nmIn, entsIn, lk, opt, bnd, req, ret, onQ, AV.isTup, and_true, true_and, and_self, Nat.reduceEqDiff, if_true, if_false, reduceCtorEq]
  simp [word4]

/-! ### quarter -/

def qStep (w : List Int) (a b c d r1 r2 : Nat) : List Int :=
  let w1 := w.set a (IntKind.u32.wrap (w.getD a 0 + w.getD b 0))
  let w2 := w1.set d (rotN (bits .xor .u32 (w1.getD d 0) (w1.getD a 0)) r1)
  let w3 := w2.set c (IntKind.u32.wrap (w2.getD c 0 + w2.getD d 0))
  w3.set b (rotN (bits .xor .u32 (w3.getD b 0) (w3.getD c 0)) r2)
def qI (w : List Int) (a b c d : Nat) : Nat → List Int
  | 0 => w
  | 1 => qStep w a b c d 16 12
  | _ => qStep (qStep w a b c d 16 12) a b c d 8 7
def qrt (w : List Int) (a b c d : Nat) : List Int := qStep (qStep w a b c d 16 12) a b c d 8 7
theorem qStep_len (w : List Int) (a b c d r1 r2 : Nat) : (qStep w a b c d r1 r2).length = w.length := by simp [qStep]
theorem call36 : Callable Tryd.prog 36 := ⟨_, Tryd.func36, by kernel_rfl, by kernel_rfl⟩
theorem call27 : Callable Tryd.prog 27 := ⟨_, Tryd.func27, by kernel_rfl, by kernel_rfl⟩
theorem rep2 : List.replicate 2 (0 : Int) = [0, 0] := rfl
theorem quarter_fn (w : List Int) (a b c d : Nat) (hw : w.length = 16) (ha : a < 16) (hb : b < 16) (hc : c < 16) (hd : d < 16) :
    FnR Tryd.prog G 28 [.ptr 1000 0 0 1, .int .i64 a, .int .i64 b, .int .i64 c, .int .i64 d] [(1000, .obj 59 (.agg [.ints .u32 16 w]))] (.tup []) [(1000, .obj 59 (.agg [.ints .u32 16 (qrt w a b c d)]))] := by
  refine FnR.of_walk (m := 81) (n0 := 1024) tt_ok Tryd.func28 rfl rfl (by simp) (by simp [nmH]) ?_
  rw [show Tryd.f28.results.toList = [] from rfl]
  refine W.seqK fun K hK => W.regionK tt_ok ?_
  simp only [exOps_nil, exOps_cons, exOp_eq, nx_eq, cur_eq, evP, stepQ, ev, ofV, lk, parT, putT, erA, inB, opt, bnd, req, ret, onQ, ap, AV.isTup, AV.isAgg, Kd.agg, comps, szL, csize, takeI, takeC, dropC, stC, stS, bldF, bldA, and_true, true_and, and_self, and_false, Nat.reduceEqDiff, Nat.reduceLT, Nat.reduceLeDiff, Nat.reduceAdd, Nat.reduceSub, Nat.reduceMul, Nat.sub_self, Nat.le_refl, Nat.add_zero, Nat.zero_add, if_true, if_false, Bool.false_eq_true, reduceCtorEq, Option.bind_some, Option.map_some, List.append_nil, List.nil_append, List.cons_append, tt_3, tt_77, tt_78, rep2, List.set_cons_zero, List.set_cons_succ]
  refine hK _ ?_
  clear hK K
  refine W.blockK ?_
  refine W.loopK (fun k : Nat => k ≤ 2) (fun k => ⟨[(0, .ptr 1000 0 0 1), (1, .int .i64 a), (2, .int .i64 b), (3, .int .i64 c), (4, .int .i64 d), (14, .agg [.ints .i64 2 [16, 12], .ints .i64 2 [8, 7]]), (15, .int .i64 k)], [(1000, .obj 59 (.agg [.ints .u32 16 (qI w a b c d k)]))], 1088, 81⟩) (fun k => 2 - k) 0 (by simp) (by simp [wk, leL, lk, nmT, nmE, nmH, AV.nmIn, AV.nmInL, Ent.nmIn, qI]) ?_
  intro k hk K3 hK3
  refine W.seqK fun K hK => W.regionK tt_ok ?_
  simp only [exOps_nil, exOps_cons, exOp_eq, nx_eq, cur_eq, stepQ, ev, ofV, lk, putT, erA, inB, opt, bnd, req, ret, onQ, ap, binG, binF, intF, true_and, and_self, Nat.reduceEqDiff, Nat.reduceLT, Nat.reduceAdd, if_true, if_false, reduceCtorEq]
  refine hK _ ?_
  clear hK K
  refine W.seqK fun K hK => W.cond (b := decide ((k : Int) < 2)) (by simp only [ev, lk, Nat.reduceEqDiff, if_true, if_false, reduceCtorEq]) (fun hb' => W.skip ?_) (fun hb' => W.exit ?_)
  · rw [thn_normal]
    have hlt : k < 2 := by have := of_decide_eq_true hb'; omega
    rcases (by omega : k = 0 ∨ k = 1) with hk0 | hk0
    · subst hk0
      simp only [qI]
      obtain ⟨v, hv⟩ : ∃ v, w = v := ⟨_, rfl⟩
      have hvl : v.length = 16 := by rw [← hv]; simp [hw]
      simp only [hv]
      refine hK _ ?_
      clear hK K
      refine W.seqK fun K hK => W.blockK ?_
      refine W.seqK fun K hK => W.regionK tt_ok ?_
      simp only [exOps_nil, exOps_cons, exOp_eq, nx_eq, cur_eq, stepQ, ev, lk, putT, erA, inB, opt, bnd, req, ret, onQ, ap, up, er, AV.isAgg, Kd.isInt, ixV, asI, ldC, ldS, Kd.agg, comps, szL, csize, takeI, takeC, dropC, stP, stE, stC, stS, and_true, true_and, and_self, Nat.reduceEqDiff, Nat.reduceLT, Nat.reduceLeDiff, Nat.reduceAdd, Nat.reduceSub, Nat.reduceMul, Nat.sub_self, Int.toNat_natCast, Nat.le_refl, Nat.add_zero, Nat.zero_add, if_true, if_false, Bool.false_eq_true, reduceCtorEq, Option.bind_some, Option.map_some, List.append_nil, List.nil_append, tt_77, tt_78]
      repeat (refine ⟨by omega, ?_⟩)
      refine hK _ ?_
      clear hK K
      refine W.seqK fun K hK => W.drawK [⟨0, false, []⟩, ⟨0, false, []⟩, ⟨0, false, [0]⟩, ⟨0, false, [0, 1, 2]⟩, ⟨0, false, [0, 1, 2, 3]⟩, ⟨0, false, []⟩, ⟨0, false, []⟩, ⟨0, false, [5]⟩, ⟨0, false, [5, 6, 7]⟩, ⟨0, false, [5, 6, 7, 8]⟩, ⟨0, false, [0, 1, 2, 3, 4, 5, 6, 7, 8, 9]⟩, ⟨0, false, [0]⟩, ⟨0, false, [0, 1, 2, 3, 4, 5, 6, 7, 8, 9, 10, 11]⟩, ⟨2, false, [0, 1, 2, 3, 4, 5, 6, 7, 8, 9, 10, 11, 12]⟩] mix tt_ok (by kernel_rfl) ?_
      simp only [exOp_eq, exD_nil, exD_cons, nxD_eq, cur_eq, flI, ownB, stepQ, ev, lk, putT, erA, inB, opt, bnd, req, ret, onQ, ap, up, er, AV.isTup, AV.isAgg, binG, binF, intF, notNil, Kd.elem, Kd.isInt, ixA, asI, ldP, ldE, ldC, ldS, Kd.agg, comps, csize, takeI, takeC, dropC, stP, stE, stC, stS, and_true, true_and, and_self, Nat.reduceEqDiff, Nat.reduceLT, Nat.reduceLeDiff, Nat.reduceAdd, Nat.reduceSub, Int.toNat_natCast, Nat.zero_add, if_true, if_false, Bool.false_eq_true, reduceCtorEq, Option.bind_some, Option.map_some, tt_38, tt_59, ha, hb]
      repeat (refine ⟨by omega, ?_⟩)
      refine hK _ ?_
      clear hK K
      refine W.seqK fun K hK => W.drawK [⟨0, false, []⟩, ⟨0, false, []⟩, ⟨0, false, []⟩, ⟨0, false, []⟩, ⟨0, false, [2]⟩, ⟨0, false, [2, 3, 4]⟩, ⟨0, false, [2, 3, 4, 5]⟩, ⟨0, false, []⟩, ⟨0, false, []⟩, ⟨0, false, [7]⟩, ⟨0, false, [7, 8, 9]⟩, ⟨0, false, [7, 8, 9, 10]⟩, ⟨0, false, [2, 3, 4, 5, 6, 7, 8, 9, 10, 11]⟩, ⟨0, false, []⟩, ⟨0, false, [13]⟩, ⟨0, false, [2, 3, 4, 5, 6, 7, 8, 9, 10, 11, 12, 13, 14]⟩, ⟨0, false, [0]⟩, ⟨0, false, [0, 1, 2, 3, 4, 5, 6, 7, 8, 9, 10, 11, 12, 13, 14, 15, 16]⟩, ⟨2, false, [0, 1, 2, 3, 4, 5, 6, 7, 8, 9, 10, 11, 12, 13, 14, 15, 16, 17]⟩] mix tt_ok (by kernel_rfl) ?_
      simp only [exOp_eq, exCall_eq, exD_cons, nxD_eq, cur_eq, flI, ownB, evL, stepQ, ev, ofV, lk, putT, erA, inB, opt, bnd, req, ret, onQ, ap, binG, binF, intF, notNil, Kd.elem, Kd.isInt, ixA, asI, ldP, ldE, ldC, ldS, Kd.agg, comps, csize, takeI, takeC, dropC, and_true, true_and, and_self, Nat.reduceEqDiff, Nat.reduceLT, Nat.reduceLeDiff, Nat.reduceAdd, Nat.reduceSub, Nat.reduceMul, Int.reduceLE, Int.reduceToNat, Int.toNat_natCast, Nat.add_zero, Nat.zero_add, if_true, if_false, Bool.false_eq_true, reduceCtorEq, Option.bind_some, Option.map_some, tt_3, tt_38, tt_59, tt_77, ha, hd]
      repeat (refine ⟨by omega, ?_⟩)
      refine CallK.pure _ _ (rot_fn _ 16 (by omega)) call36 (by simp only [AV.nmIn, bnd, req, ret, onQ, AV.isTup, isTupL, true_and, and_self, Bool.false_eq_true, List.append_nil, vw.vwL, vw, AV.free, Bool.or_self]; all_goals (and_intros <;> first | exact AV.subL_refl _ | omega | rfl | (simp []; done) | (simp; exact AV.subL_refl _) | (simp [AV.subL, AV.sub]; done))) ?_
      simp only [exOp_eq, exD_nil, exD_cons, nxD_eq, cur_eq, flI, ownB, stepQ, ev, lk, putT, erA, inB, opt, bnd, req, ret, onQ, ap, up, er, AV.isTup, AV.isAgg, notNil, Kd.elem, Kd.isInt, ixA, asI, Kd.agg, comps, csize, takeI, takeC, dropC, stP, stE, stC, stS, and_true, true_and, and_self, Nat.reduceEqDiff, Nat.reduceLT, Nat.reduceLeDiff, Nat.reduceAdd, Nat.reduceSub, Int.toNat_natCast, Nat.zero_add, if_true, if_false, Bool.false_eq_true, reduceCtorEq, Option.bind_some, Option.map_some, tt_38, tt_59]
      repeat (refine ⟨by omega, ?_⟩)
      refine hK _ ?_
      clear hK K
      refine W.seqK fun K hK => W.drawK [⟨0, false, []⟩, ⟨0, false, []⟩, ⟨0, false, [0]⟩, ⟨0, false, [0, 1, 2]⟩, ⟨0, false, [0, 1, 2, 3]⟩, ⟨0, false, []⟩, ⟨0, false, []⟩, ⟨0, false, [5]⟩, ⟨0, false, [5, 6, 7]⟩, ⟨0, false, [5, 6, 7, 8]⟩, ⟨0, false, [0, 1, 2, 3, 4, 5, 6, 7, 8, 9]⟩, ⟨0, false, [0]⟩, ⟨0, false, [0, 1, 2, 3, 4, 5, 6, 7, 8, 9, 10, 11]⟩, ⟨2, false, [0, 1, 2, 3, 4, 5, 6, 7, 8, 9, 10, 11, 12]⟩] mix tt_ok (by kernel_rfl) ?_
      simp only [exOp_eq, exD_nil, exD_cons, nxD_eq, cur_eq, flI, ownB, stepQ, ev, lk, putT, erA, inB, opt, bnd, req, ret, onQ, ap, up, er, AV.isTup, AV.isAgg, binG, binF, intF, notNil, Kd.elem, Kd.isInt, ixA, asI, ldP, ldE, ldC, ldS, Kd.agg, comps, csize, takeI, takeC, dropC, stP, stE, stC, stS, and_true, true_and, and_self, Nat.reduceEqDiff, Nat.reduceLT, Nat.reduceLeDiff, Nat.reduceAdd, Nat.reduceSub, Int.toNat_natCast, Nat.zero_add, if_true, if_false, Bool.false_eq_true, reduceCtorEq, Option.bind_some, Option.map_some, tt_38, tt_59, hc, hd]
      repeat (refine ⟨by omega, ?_⟩)
      refine hK _ ?_
      clear hK K
      refine exD_sound (A := [⟨0, false, []⟩, ⟨0, false, []⟩, ⟨0, false, []⟩, ⟨0, false, []⟩, ⟨0, false, [2]⟩, ⟨0, false, [2, 3, 4]⟩, ⟨0, false, [2, 3, 4, 5]⟩, ⟨0, false, []⟩, ⟨0, false, []⟩, ⟨0, false, [7]⟩, ⟨0, false, [7, 8, 9]⟩, ⟨0, false, [7, 8, 9, 10]⟩, ⟨0, false, [2, 3, 4, 5, 6, 7, 8, 9, 10, 11]⟩, ⟨0, false, []⟩, ⟨0, false, [13]⟩, ⟨0, false, [2, 3, 4, 5, 6, 7, 8, 9, 10, 11, 12, 13, 14]⟩, ⟨0, false, [0]⟩, ⟨0, false, [0, 1, 2, 3, 4, 5, 6, 7, 8, 9, 10, 11, 12, 13, 14, 15, 16]⟩, ⟨2, false, [0, 1, 2, 3, 4, 5, 6, 7, 8, 9, 10, 11, 12, 13, 14, 15, 16, 17]⟩]) mix tt_ok (by kernel_rfl) ?_
      simp only [exOp_eq, exCall_eq, exD_cons, nxD_eq, cur_eq, flI, ownB, evL, stepQ, ev, ofV, lk, putT, erA, inB, opt, bnd, req, ret, onQ, ap, binG, binF, intF, notNil, Kd.elem, Kd.isInt, ixA, asI, ldP, ldE, ldC, ldS, Kd.agg, comps, csize, takeI, takeC, dropC, and_true, true_and, and_self, Nat.reduceEqDiff, Nat.reduceLT, Nat.reduceLeDiff, Nat.reduceAdd, Nat.reduceSub, Nat.reduceMul, Int.reduceLE, Int.reduceToNat, Int.toNat_natCast, Nat.zero_add, if_true, if_false, Bool.false_eq_true, reduceCtorEq, Option.bind_some, Option.map_some, tt_3, tt_38, tt_59, tt_77, hb, hc]
      repeat (refine ⟨by omega, ?_⟩)
      refine CallK.pure _ _ (rot_fn _ 12 (by omega)) call36 (by simp only [AV.nmIn, bnd, req, ret, onQ, AV.isTup, isTupL, true_and, and_self, Bool.false_eq_true, List.append_nil, vw.vwL, vw, AV.free, Bool.or_self]; all_goals (and_intros <;> first | exact AV.subL_refl _ | omega | rfl | (simp []; done) | (simp; exact AV.subL_refl _) | (simp [AV.subL, AV.sub]; done))) ?_
      simp only [exOp_eq, exD_nil, exD_cons, nxD_eq, cur_eq, flI, ownB, stepQ, ev, lk, putT, erA, inB, opt, bnd, req, ret, onQ, ap, up, er, AV.isTup, AV.isAgg, notNil, Kd.elem, Kd.isInt, ixA, asI, Kd.agg, comps, csize, takeI, takeC, dropC, stP, stE, stC, stS, thn_normal, inb_normal, and_true, true_and, and_self, Nat.reduceEqDiff, Nat.reduceLT, Nat.reduceLeDiff, Nat.reduceAdd, Nat.reduceSub, Int.toNat_natCast, Nat.zero_add, if_true, if_false, Bool.false_eq_true, reduceCtorEq, Option.bind_some, Option.map_some, tt_38, tt_59]
      repeat (refine ⟨by omega, ?_⟩)
      refine hK _ ?_
      clear hK K
      refine W.region tt_ok ?_
      simp only [exOps_nil, exOps_cons, exOp_eq, nx_eq, cur_eq, stepQ, ev, ofV, lk, putT, erA, inB, opt, bnd, req, ret, onQ, ap, binG, binF, intF, thn_normal, true_and, and_self, Nat.reduceEqDiff, Nat.reduceLT, Nat.reduceAdd, if_true, if_false, reduceCtorEq, show IntKind.i64.wrap 1 = 1 from rfl, show ((0 : Nat) : Int) + 1 = 1 from rfl]
      refine hK3 _ 1 (by omega) (by omega) ?_
      simp only [qI, qStep, hv]
      simp [wk, leL, lk, nmT, nmE, nmH, AV.nmIn, AV.nmInL, Ent.nmIn, ← hv]
    · subst hk0
      simp only [qI]
      obtain ⟨v, hv⟩ : ∃ v, qStep w a b c d 16 12 = v := ⟨_, rfl⟩
      have hvl : v.length = 16 := by rw [← hv]; simp [qStep_len, hw]
      simp only [hv]
      refine hK _ ?_
      clear hK K
      refine W.seqK fun K hK => W.blockK ?_
      refine W.seqK fun K hK => W.regionK tt_ok ?_
      simp only [exOps_nil, exOps_cons, exOp_eq, nx_eq, cur_eq, stepQ, ev, lk, putT, erA, inB, opt, bnd, req, ret, onQ, ap, up, er, AV.isAgg, Kd.isInt, ixV, asI, ldC, ldS, Kd.agg, comps, szL, csize, takeI, takeC, dropC, stP, stE, stC, stS, and_true, true_and, and_self, Nat.reduceEqDiff, Nat.reduceLT, Nat.reduceLeDiff, Nat.reduceAdd, Nat.reduceSub, Nat.reduceMul, Nat.sub_self, Int.toNat_natCast, Nat.le_refl, Nat.add_zero, Nat.zero_add, if_true, if_false, Bool.false_eq_true, reduceCtorEq, Option.bind_some, Option.map_some, List.append_nil, List.nil_append, tt_77, tt_78]
      repeat (refine ⟨by omega, ?_⟩)
      refine hK _ ?_
      clear hK K
      refine W.seqK fun K hK => W.drawK [⟨0, false, []⟩, ⟨0, false, []⟩, ⟨0, false, [0]⟩, ⟨0, false, [0, 1, 2]⟩, ⟨0, false, [0, 1, 2, 3]⟩, ⟨0, false, []⟩, ⟨0, false, []⟩, ⟨0, false, [5]⟩, ⟨0, false, [5, 6, 7]⟩, ⟨0, false, [5, 6, 7, 8]⟩, ⟨0, false, [0, 1, 2, 3, 4, 5, 6, 7, 8, 9]⟩, ⟨0, false, [0]⟩, ⟨0, false, [0, 1, 2, 3, 4, 5, 6, 7, 8, 9, 10, 11]⟩, ⟨2, false, [0, 1, 2, 3, 4, 5, 6, 7, 8, 9, 10, 11, 12]⟩] mix tt_ok (by kernel_rfl) ?_
      simp only [exOp_eq, exD_nil, exD_cons, nxD_eq, cur_eq, flI, ownB, stepQ, ev, lk, putT, erA, inB, opt, bnd, req, ret, onQ, ap, up, er, AV.isTup, AV.isAgg, binG, binF, intF, notNil, Kd.elem, Kd.isInt, ixA, asI, ldP, ldE, ldC, ldS, Kd.agg, comps, csize, takeI, takeC, dropC, stP, stE, stC, stS, and_true, true_and, and_self, Nat.reduceEqDiff, Nat.reduceLT, Nat.reduceLeDiff, Nat.reduceAdd, Nat.reduceSub, Int.toNat_natCast, Nat.zero_add, if_true, if_false, Bool.false_eq_true, reduceCtorEq, Option.bind_some, Option.map_some, tt_38, tt_59, ha, hb]
      repeat (refine ⟨by omega, ?_⟩)
      refine hK _ ?_
      clear hK K
      refine W.seqK fun K hK => W.drawK [⟨0, false, []⟩, ⟨0, false, []⟩, ⟨0, false, []⟩, ⟨0, false, []⟩, ⟨0, false, [2]⟩, ⟨0, false, [2, 3, 4]⟩, ⟨0, false, [2, 3, 4, 5]⟩, ⟨0, false, []⟩, ⟨0, false, []⟩, ⟨0, false, [7]⟩, ⟨0, false, [7, 8, 9]⟩, ⟨0, false, [7, 8, 9, 10]⟩, ⟨0, false, [2, 3, 4, 5, 6, 7, 8, 9, 10, 11]⟩, ⟨0, false, []⟩, ⟨0, false, [13]⟩, ⟨0, false, [2, 3, 4, 5, 6, 7, 8, 9, 10, 11, 12, 13, 14]⟩, ⟨0, false, [0]⟩, ⟨0, false, [0, 1, 2, 3, 4, 5, 6, 7, 8, 9, 10, 11, 12, 13, 14, 15, 16]⟩, ⟨2, false, [0, 1, 2, 3, 4, 5, 6, 7, 8, 9, 10, 11, 12, 13, 14, 15, 16, 17]⟩] mix tt_ok (by kernel_rfl) ?_
      simp only [exOp_eq, exCall_eq, exD_cons, nxD_eq, cur_eq, flI, ownB, evL, stepQ, ev, ofV, lk, putT, erA, inB, opt, bnd, req, ret, onQ, ap, binG, binF, intF, notNil, Kd.elem, Kd.isInt, ixA, asI, ldP, ldE, ldC, ldS, Kd.agg, comps, csize, takeI, takeC, dropC, and_true, true_and, and_self, Nat.reduceEqDiff, Nat.reduceLT, Nat.reduceLeDiff, Nat.reduceAdd, Nat.reduceSub, Nat.reduceMul, Int.reduceLE, Int.reduceToNat, Int.toNat_natCast, Nat.add_zero, Nat.zero_add, if_true, if_false, Bool.false_eq_true, reduceCtorEq, Option.bind_some, Option.map_some, tt_3, tt_38, tt_59, tt_77, ha, hd]
      repeat (refine ⟨by omega, ?_⟩)
      refine CallK.pure _ _ (rot_fn _ 8 (by omega)) call36 (by simp only [AV.nmIn, bnd, req, ret, onQ, AV.isTup, isTupL, true_and, and_self, Bool.false_eq_true, List.append_nil, vw.vwL, vw, AV.free, Bool.or_self]; all_goals (and_intros <;> first | exact AV.subL_refl _ | omega | rfl | (simp []; done) | (simp; exact AV.subL_refl _) | (simp [AV.subL, AV.sub]; done))) ?_
      simp only [exOp_eq, exD_nil, exD_cons, nxD_eq, cur_eq, flI, ownB, stepQ, ev, lk, putT, erA, inB, opt, bnd, req, ret, onQ, ap, up, er, AV.isTup, AV.isAgg, notNil, Kd.elem, Kd.isInt, ixA, asI, Kd.agg, comps, csize, takeI, takeC, dropC, stP, stE, stC, stS, and_true, true_and, and_self, Nat.reduceEqDiff, Nat.reduceLT, Nat.reduceLeDiff, Nat.reduceAdd, Nat.reduceSub, Int.toNat_natCast, Nat.zero_add, if_true, if_false, Bool.false_eq_true, reduceCtorEq, Option.bind_some, Option.map_some, tt_38, tt_59]
      repeat (refine ⟨by omega, ?_⟩)
      refine hK _ ?_
      clear hK K
      refine W.seqK fun K hK => W.drawK [⟨0, false, []⟩, ⟨0, false, []⟩, ⟨0, false, [0]⟩, ⟨0, false, [0, 1, 2]⟩, ⟨0, false, [0, 1, 2, 3]⟩, ⟨0, false, []⟩, ⟨0, false, []⟩, ⟨0, false, [5]⟩, ⟨0, false, [5, 6, 7]⟩, ⟨0, false, [5, 6, 7, 8]⟩, ⟨0, false, [0, 1, 2, 3, 4, 5, 6, 7, 8, 9]⟩, ⟨0, false, [0]⟩, ⟨0, false, [0, 1, 2, 3, 4, 5, 6, 7, 8, 9, 10, 11]⟩, ⟨2, false, [0, 1, 2, 3, 4, 5, 6, 7, 8, 9, 10, 11, 12]⟩] mix tt_ok (by kernel_rfl) ?_
      simp only [exOp_eq, exD_nil, exD_cons, nxD_eq, cur_eq, flI, ownB, stepQ, ev, lk, putT, erA, inB, opt, bnd, req, ret, onQ, ap, up, er, AV.isTup, AV.isAgg, binG, binF, intF, notNil, Kd.elem, Kd.isInt, ixA, asI, ldP, ldE, ldC, ldS, Kd.agg, comps, csize, takeI, takeC, dropC, stP, stE, stC, stS, and_true, true_and, and_self, Nat.reduceEqDiff, Nat.reduceLT, Nat.reduceLeDiff, Nat.reduceAdd, Nat.reduceSub, Int.toNat_natCast, Nat.zero_add, if_true, if_false, Bool.false_eq_true, reduceCtorEq, Option.bind_some, Option.map_some, tt_38, tt_59, hc, hd]
      repeat (refine ⟨by omega, ?_⟩)
      refine hK _ ?_
      clear hK K
      refine exD_sound (A := [⟨0, false, []⟩, ⟨0, false, []⟩, ⟨0, false, []⟩, ⟨0, false, []⟩, ⟨0, false, [2]⟩, ⟨0, false, [2, 3, 4]⟩, ⟨0, false, [2, 3, 4, 5]⟩, ⟨0, false, []⟩, ⟨0, false, []⟩, ⟨0, false, [7]⟩, ⟨0, false, [7, 8, 9]⟩, ⟨0, false, [7, 8, 9, 10]⟩, ⟨0, false, [2, 3, 4, 5, 6, 7, 8, 9, 10, 11]⟩, ⟨0, false, []⟩, ⟨0, false, [13]⟩, ⟨0, false, [2, 3, 4, 5, 6, 7, 8, 9, 10, 11, 12, 13, 14]⟩, ⟨0, false, [0]⟩, ⟨0, false, [0, 1, 2, 3, 4, 5, 6, 7, 8, 9, 10, 11, 12, 13, 14, 15, 16]⟩, ⟨2, false, [0, 1, 2, 3, 4, 5, 6, 7, 8, 9, 10, 11, 12, 13, 14, 15, 16, 17]⟩]) mix tt_ok (by kernel_rfl) ?_
      simp only [exOp_eq, exCall_eq, exD_cons, nxD_eq, cur_eq, flI, ownB, evL, stepQ, ev, ofV, lk, putT, erA, inB, opt, bnd, req, ret, onQ, ap, binG, binF, intF, notNil, Kd.elem, Kd.isInt, ixA, asI, ldP, ldE, ldC, ldS, Kd.agg, comps, csize, takeI, takeC, dropC, and_true, true_and, and_self, Nat.reduceEqDiff, Nat.reduceLT, Nat.reduceLeDiff, Nat.reduceAdd, Nat.reduceSub, Nat.reduceMul, Int.reduceLE, Int.reduceToNat, Int.toNat_natCast, Nat.zero_add, if_true, if_false, Bool.false_eq_true, reduceCtorEq, Option.bind_some, Option.map_some, tt_3, tt_38, tt_59, tt_77, hb, hc]
      repeat (refine ⟨by omega, ?_⟩)
      refine CallK.pure _ _ (rot_fn _ 7 (by omega)) call36 (by simp only [AV.nmIn, bnd, req, ret, onQ, AV.isTup, isTupL, true_and, and_self, Bool.false_eq_true, List.append_nil, vw.vwL, vw, AV.free, Bool.or_self]; all_goals (and_intros <;> first | exact AV.subL_refl _ | omega | rfl | (simp []; done) | (simp; exact AV.subL_refl _) | (simp [AV.subL, AV.sub]; done))) ?_
      simp only [exOp_eq, exD_nil, exD_cons, nxD_eq, cur_eq, flI, ownB, stepQ, ev, lk, putT, erA, inB, opt, bnd, req, ret, onQ, ap, up, er, AV.isTup, AV.isAgg, notNil, Kd.elem, Kd.isInt, ixA, asI, Kd.agg, comps, csize, takeI, takeC, dropC, stP, stE, stC, stS, thn_normal, inb_normal, and_true, true_and, and_self, Nat.reduceEqDiff, Nat.reduceLT, Nat.reduceLeDiff, Nat.reduceAdd, Nat.reduceSub, Int.toNat_natCast, Nat.zero_add, if_true, if_false, Bool.false_eq_true, reduceCtorEq, Option.bind_some, Option.map_some, tt_38, tt_59]
      repeat (refine ⟨by omega, ?_⟩)
      refine hK _ ?_
      clear hK K
      refine W.region tt_ok ?_
      simp only [exOps_nil, exOps_cons, exOp_eq, nx_eq, cur_eq, stepQ, ev, ofV, lk, putT, erA, inB, opt, bnd, req, ret, onQ, ap, binG, binF, intF, thn_normal, true_and, and_self, Nat.reduceEqDiff, Nat.reduceLT, Nat.reduceAdd, if_true, if_false, reduceCtorEq, show IntKind.i64.wrap 2 = 2 from rfl, show ((1 : Nat) : Int) + 1 = 2 from rfl]
      refine hK3 _ 2 (by omega) (by omega) ?_
      simp only [qI, qStep]
      simp [wk, leL, lk, nmT, nmE, nmH, AV.nmIn, AV.nmInL, Ent.nmIn, ← hv, qStep]
  · simp only [fin_normal, finB, resQ, resV, leL, AV.nmIn, AV.nmInL, entsIn, lk, ret, onQ, thn_exit, inb_exit, and_true, true_and, and_self, if_true]
    clear hK K
    have hk2 : k = 2 := by have := of_decide_eq_false hb'; omega
    subst hk2
    exact ⟨rfl, by simp [Ent.nmIn, AV.nmIn, AV.nmInL]⟩
end Go.Proofs.YtakgcmponelbeaaDoor.Sm
