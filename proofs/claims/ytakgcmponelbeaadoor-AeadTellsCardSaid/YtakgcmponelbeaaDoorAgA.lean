/- The tag's words and numbers. -/
import Derived.Test.YtakgcmponelbeaaDoorAeB
import Derived.Test.YtakgcmponelbeaaDoorSxW
import Derived.Laws.BitsLemmas
import Derived.Laws.Externs
-- TT 3 5 24 23 65 67
set_option linter.unusedVariables false
set_option linter.unusedSimpArgs false
namespace Go.Proofs.YtakgcmponelbeaaDoor.Tg
open Sx
set_option maxRecDepth 100000
theorem add64_ext (x y c : Int) (hx : 0 ≤ x) (hy : 0 ≤ y) (hc0 : 0 ≤ c) (hc : c ≤ 1) : ExtR Tryd.prog 37 [.int .u64 x, .int .u64 y, .int .u64 c] (.tup [.int .u64 ((x + y + c) % 18446744073709551616), .int .u64 ((x + y + c) / 18446744073709551616)]) := by
  intro w
  refine ⟨.tuple #[.int .u64 ((x + y + c) % 18446744073709551616), .int .u64 ((x + y + c) / 18446744073709551616)], ?_, fun ρ S N => ?_⟩
  · rw [run_callFunc_extern (e := add64Entry) Tryd.func37 (by kernel_rfl) (by kernel_rfl) (by rfl) (by rfl)]
    have := run_add64 (P := Tryd.prog) x y c hx hy hc0 hc w
    simp [Sx.shape, AV.isAgg, conc, this]
  · exact RV.tup (vs := [_, _]) rfl (fun i v hi => by
      match i with
      | 0 => simp at hi; subst hi; exact ⟨[_], .int, rfl⟩
      | 1 => simp at hi; subst hi; exact ⟨[_], .int, rfl⟩
      | i + 2 => simp at hi)

/-! ### word -/

def wordN (xs : List Int) : Nat → Int
  | 0 => 0
  | k + 1 => bits .or .u64 (wordN xs k) (IntKind.u64.wrap (IntKind.u64.wrap (xs.getD k 0) * 2 ^ (min (8 * k) 64)))
theorem word_fn (xs : List Int) (hl : 8 ≤ xs.length) : FnR Tryd.prog G 29 [.lstI .u8 xs] [] (.int .u64 (wordN xs 8)) [] := by
  refine FnR.of_walk (m := 20) (n0 := 0) tt_ok Tryd.func29 rfl rfl (by simp) (by simp [nmH]) ?_
  rw [show Tryd.f29.results.toList = [.tmp 2] from rfl]
  refine W.seqK fun K hK => W.regionK tt_ok ?_
  simp only [exOps_nil, exOps_cons, exOp_eq, nx_eq, cur_eq, stepQ, ev, ofV, parT, putT, erA, inB, opt, ret, onQ, ap, true_and, Nat.reduceLT, Nat.zero_add, if_false, reduceCtorEq]
  refine hK _ ?_
  clear hK K
  refine W.seqK fun K hK => W.regionK tt_ok ?_
  simp only [exOps_nil, exOps_cons, exOp_eq, nx_eq, cur_eq, stepQ, ev, ofV, putT, erA, inB, opt, ret, onQ, ap, true_and, Nat.reduceEqDiff, Nat.reduceLT, Nat.reduceAdd, if_false, reduceCtorEq]
  refine hK _ ?_
  clear hK K
  refine W.seqK fun K hK => ?_
  refine W.seqK fun K hK => W.regionK tt_ok ?_
  simp only [exOps_nil, exOps_cons, exOp_eq, nx_eq, cur_eq, stepQ, ev, ofV, putT, erA, inB, opt, ret, onQ, ap, true_and, Nat.reduceEqDiff, Nat.reduceLT, Nat.reduceAdd, if_false, reduceCtorEq]
  refine hK _ ?_
  clear hK K
  refine W.blockK ?_
  refine W.loopK (fun k : Nat => k ≤ 8) (fun k => ⟨[(0, .lstI .u8 xs), (3, .int .u64 (wordN xs k)), (5, .int .i64 k)], [], 0, 20⟩) (fun k => 8 - k) 0 (by simp) (by simp [wk, leL, lk, nmT, nmE, nmH, AV.nmIn, wordN]) ?_
  intro k hk K3 hK3
  refine W.seqK fun K hK => W.regionK tt_ok ?_
  simp only [exOps_nil, exOps_cons, exOp_eq, nx_eq, cur_eq, stepQ, ev, ofV, lk, putT, erA, inB, opt, bnd, req, ret, onQ, ap, binG, binF, intF, true_and, and_self, Nat.reduceEqDiff, Nat.reduceLT, Nat.zero_add, if_true, if_false, reduceCtorEq]
  refine hK _ ?_
  clear hK K
  refine W.seqK fun K hK => W.cond (b := decide ((k : Int) < 8)) (by simp only [ev, lk, Nat.reduceEqDiff, if_true, if_false, reduceCtorEq]) (fun hb => W.skip ?_) (fun hb => W.exit ?_)
  · rw [thn_normal]
    have hlt : k < 8 := by have := of_decide_eq_true hb; omega
    refine hK _ ?_
    clear hK K
    refine W.seqK fun K hK => W.blockK ?_
    refine W.seqK fun K hK => W.regionK tt_ok ?_
    simp only [exOps_nil, exOps_cons, exOp_eq, nx_eq, cur_eq, stepQ, ev, lk, putT, erA, inB, opt, ret, onQ, ap, true_and, Nat.reduceEqDiff, Nat.reduceLT, Nat.reduceAdd, if_true, if_false, reduceCtorEq]
    refine hK _ ?_
    clear hK K
    have hw : IntKind.i64.wrap (8 * (k : Int)) = ((8 * k : Nat) : Int) := by rw [IntKind.wrap_i64]; omega
    refine W.region tt_ok ?_
    simp only [exOps_nil, exOps_cons, exOp_eq, nx_eq, cur_eq, stepQ, ev, ofV, lk, putT, erA, inB, opt, bnd, req, ret, onQ, ap, binG, binF, intF, shiftF, Kd.elem, ixA, asI, ldP, ldC, ldS, Kd.agg, comps, csize, takeI, takeC, dropC, cvQ, thn_normal, inb_normal, and_true, true_and, and_self, Nat.reduceEqDiff, Nat.reduceLT, Nat.reduceLeDiff, Nat.reduceAdd, Nat.reduceSub, Nat.sub_self, Int.toNat_natCast, Nat.le_refl, if_true, if_false, Bool.false_eq_true, reduceCtorEq, Option.bind_some, Option.map_some, tt_5, tt_24, tt_23, hw]
    refine ⟨by omega, by omega, ?_⟩
    refine hK _ ?_
    clear hK K
    refine W.region tt_ok ?_
    simp only [exOps_nil, exOps_cons, exOp_eq, nx_eq, cur_eq, stepQ, ev, ofV, lk, putT, erA, inB, opt, bnd, req, ret, onQ, ap, binG, binF, intF, thn_normal, true_and, and_self, Nat.reduceEqDiff, Nat.reduceLT, Nat.reduceAdd, if_true, if_false, reduceCtorEq, wrap_up k (by omega)]
    refine hK3 _ (k + 1) (by omega) (by omega) ?_
    simp [wk, leL, lk, nmT, nmE, nmH, AV.nmIn, wordN, IntKind.bits]
  · simp only [thn_normal, thn_exit, inb_exit, if_true]
    clear hK K
    have hk8 : k = 8 := by have := of_decide_eq_false hb; omega
    subst hk8
    refine hK _ ?_
    clear hK K
    refine W.seqK fun K hK => W.regionK tt_ok ?_
    simp only [exOps_nil, exOps_cons, exOp_eq, nx_eq, cur_eq, stepQ, ev, lk, putT, erA, inB, opt, ret, onQ, ap, true_and, Nat.reduceEqDiff, Nat.reduceLT, Nat.reduceAdd, if_true, if_false, reduceCtorEq]
    refine hK _ ?_
    clear hK K
    refine W.ret ?_
    simp only [fin_ret, finB, resQ, resV, leL, AV.nmIn, entsIn, lk, opt, bnd, req, ret, onQ, AV.isTup, and_self, Nat.reduceEqDiff, if_true, if_false, reduceCtorEq]

/-! ### plus -/

def plusC (xs ys : List Int) : Nat → List Int × Int
  | 0 => (xs, 0)
  | k + 1 => ((plusC xs ys k).1.set k (((plusC xs ys k).1.getD k 0 + ys.getD k 0 + (plusC xs ys k).2) % 18446744073709551616), ((plusC xs ys k).1.getD k 0 + ys.getD k 0 + (plusC xs ys k).2) / 18446744073709551616)
def R64 (xs : List Int) : Prop := ∀ i, 0 ≤ xs.getD i 0 ∧ xs.getD i 0 < 18446744073709551616
theorem R64.set {xs : List Int} (h : R64 xs) (k : Nat) (v : Int) (h0 : 0 ≤ v) (h1 : v < 18446744073709551616) : R64 (xs.set k v) := by
  intro i
  have := h i
  simp only [List.getD_eq_getElem?_getD, List.getElem?_set] at this ⊢
  split
  · split
    · exact ⟨h0, h1⟩
    · simp
  · exact this
theorem plusC_ok (xs ys : List Int) (hx : R64 xs) (hy : R64 ys) : ∀ k, (plusC xs ys k).1.length = xs.length ∧ 0 ≤ (plusC xs ys k).2 ∧ (plusC xs ys k).2 ≤ 1 ∧ R64 (plusC xs ys k).1
  | 0 => ⟨rfl, by simp [plusC], by simp [plusC], hx⟩
  | k + 1 => by
    obtain ⟨h1, h2, h3, h4⟩ := plusC_ok xs ys hx hy k
    have a := h4 k
    have b := hy k
    simp only [plusC]
    exact ⟨by simp [h1], by omega, by omega, h4.set k _ (by omega) (by omega)⟩
theorem plus_fn (xs ys : List Int) (hx : R64 xs) (hy : R64 ys) :
    FnR Tryd.prog G 30 [.agg [.ints .u64 3 xs], .agg [.ints .u64 3 ys]] [] (.agg [.ints .u64 3 (plusC xs ys 3).1]) [] := by
  refine FnR.of_walk (m := 25) (n0 := 0) tt_ok Tryd.func30 rfl rfl (by simp) (by simp [nmH]) ?_
  rw [show Tryd.f30.results.toList = [.cell 4 67] from rfl]
  refine W.seqK fun K hK => W.regionK tt_ok ?_
  simp only [exOps_nil, exOps_cons, exOp_eq, nx_eq, cur_eq, stepQ, ev, lk, parT, putT, erA, inB, opt, req, ret, onQ, ap, up, er, AV.isTup, true_and, and_self, Nat.reduceEqDiff, Nat.reduceLT, Nat.reduceAdd, Nat.zero_add, if_true, if_false, reduceCtorEq, tt_67]
  refine hK _ ?_
  clear hK K
  refine W.seqK fun K hK => W.regionK tt_ok ?_
  simp only [exOps_nil, exOps_cons, exOp_eq, nx_eq, cur_eq, stepQ, ev, ofV, putT, erA, inB, opt, ret, onQ, ap, true_and, Nat.reduceEqDiff, Nat.reduceLT, Nat.reduceAdd, if_false, reduceCtorEq]
  refine hK _ ?_
  clear hK K
  refine W.seqK fun K hK => ?_
  refine W.seqK fun K hK => W.regionK tt_ok ?_
  simp only [exOps_nil, exOps_cons, exOp_eq, nx_eq, cur_eq, stepQ, ev, ofV, putT, erA, inB, opt, ret, onQ, ap, true_and, Nat.reduceEqDiff, Nat.reduceLT, Nat.reduceAdd, if_false, reduceCtorEq]
  refine hK _ ?_
  clear hK K
  refine W.blockK ?_
  refine W.loopK (fun k : Nat => k ≤ 3) (fun k => ⟨[(2, .ptr 0 0 0 1), (3, .ptr 16 0 0 1), (4, .ptr 32 0 0 1), (5, .int .u64 (plusC xs ys k).2), (7, .int .i64 k)], [(0, .obj 67 (.agg [.ints .u64 3 (plusC xs ys k).1])), (16, .obj 67 (.agg [.ints .u64 3 ys])), (32, .obj 67 (.agg [.ints .u64 3 (List.replicate 3 0)]))], 48, 25⟩) (fun k => 3 - k) 0 (by simp) (by simp [wk, leL, lk, nmT, nmE, nmH, AV.nmIn, AV.nmInL, Ent.nmIn, plusC]) ?_
  intro k hk K3 hK3
  refine W.seqK fun K hK => W.regionK tt_ok ?_
  simp only [exOps_nil, exOps_cons, exOp_eq, nx_eq, cur_eq, stepQ, ev, ofV, lk, putT, erA, inB, opt, bnd, req, ret, onQ, ap, binG, binF, intF, true_and, and_self, Nat.reduceEqDiff, Nat.reduceLT, Nat.reduceAdd, if_true, if_false]
  refine hK _ ?_
  clear hK K
  refine W.seqK fun K hK => W.cond (b := decide ((k : Int) < 3)) (by simp only [ev, lk, Nat.reduceEqDiff, if_true, if_false]) (fun hb => W.skip ?_) (fun hb => W.exit ?_)
  · rw [thn_normal]
    have hlt : k < 3 := by have := of_decide_eq_true hb; omega
    obtain ⟨p1, p2, p3, p4⟩ := plusC_ok xs ys hx hy k
    refine hK _ ?_
    clear hK K
    refine W.seqK fun K hK => W.blockK ?_
    refine W.seqK fun K hK => W.regionK tt_ok ?_
    simp only [exOps_nil, exOps_cons, exOp_eq, nx_eq, cur_eq, stepQ, ev, lk, putT, erA, inB, opt, ret, onQ, ap, true_and, Nat.reduceEqDiff, Nat.reduceLT, Nat.reduceAdd, if_true, if_false]
    refine hK _ ?_
    clear hK K
    refine exD_sound (A := [⟨0, false, []⟩, ⟨0, false, []⟩, ⟨0, false, [1]⟩, ⟨0, false, [1, 2]⟩, ⟨0, false, []⟩, ⟨0, false, [4]⟩, ⟨0, false, [4, 5]⟩, ⟨0, false, []⟩, ⟨0, false, [1, 2, 3, 4, 5, 6, 7]⟩, ⟨0, false, [1, 2, 3, 4, 5, 6, 7, 8]⟩, ⟨0, false, [1, 2, 3, 4, 5, 6, 7, 8, 9]⟩, ⟨0, false, [1, 2, 3, 4, 5, 6, 7, 8, 9]⟩, ⟨0, false, [0, 1, 2, 3, 4, 5, 6, 7, 8, 9, 10]⟩, ⟨2, false, [0, 1, 2, 3, 4, 5, 6, 7, 8, 9, 10, 12]⟩, ⟨0, false, [0, 1, 2, 3, 4, 5, 6, 7, 8, 9, 10, 11, 12, 13]⟩]) mix tt_ok (by kernel_rfl) ?_
    simp only [exOp_eq, exCall_eq, exD_cons, nxD_eq, cur_eq, flI, ownB, evL, stepQ, ev, lk, putT, erA, inB, opt, bnd, req, ret, onQ, ap, Kd.elem, Kd.isInt, ixA, asI, ldP, ldE, ldC, ldS, Kd.agg, comps, csize, takeI, takeC, dropC, and_true, true_and, and_self, Nat.reduceEqDiff, Nat.reduceLT, Nat.reduceLeDiff, Nat.reduceAdd, Nat.reduceSub, Int.toNat_natCast, Nat.zero_add, if_true, if_false, Bool.false_eq_true, reduceCtorEq, Option.bind_some, Option.map_some, tt_23, tt_67]
    refine ⟨by omega, by omega, by omega, by omega, ?_⟩
    refine CallK.ext _ rfl rfl (add64_ext _ _ _ (p4 _).1 (hy _).1 p2 p3) ?_
    simp only [exOp_eq, exD_nil, exD_cons, nxD_eq, cur_eq, flI, ownB, stepQ, ev, lk, putT, erA, inB, opt, bnd, req, ret, onQ, ap, up, er, AV.isTup, AV.isAgg, Kd.elem, Kd.isInt, ixA, asI, Kd.agg, comps, csize, takeI, takeC, dropC, stP, stE, stC, stS, thn_normal, inb_normal, and_true, true_and, and_self, Nat.reduceEqDiff, Nat.reduceLT, Nat.reduceLeDiff, Nat.reduceAdd, Nat.reduceSub, Int.toNat_natCast, Nat.zero_add, if_true, if_false, Bool.false_eq_true, reduceCtorEq, List.getElem?_cons_zero, List.getElem?_cons_succ, Option.bind_some, Option.map_some, tt_23, tt_67]
    refine ⟨by omega, by omega, ?_⟩
    refine hK _ ?_
    clear hK K
    refine W.region tt_ok ?_
    simp only [exOps_nil, exOps_cons, exOp_eq, nx_eq, cur_eq, stepQ, ev, ofV, lk, putT, erA, inB, opt, bnd, req, ret, onQ, ap, binG, binF, intF, thn_normal, true_and, and_self, Nat.reduceEqDiff, Nat.reduceLT, Nat.reduceAdd, if_true, if_false, wrap_up k (by omega)]
    refine hK3 _ (k + 1) (by omega) (by omega) ?_
    simp [wk, leL, lk, nmT, nmE, nmH, AV.nmIn, AV.nmInL, Ent.nmIn, plusC]
  · simp only [thn_normal, thn_exit, inb_exit, if_true]
    clear hK K
    have hk8 : k = 3 := by have := of_decide_eq_false hb; omega
    subst hk8
    refine hK _ ?_
    clear hK K
    refine W.seqK fun K hK => W.regionK tt_ok ?_
    simp only [exOps_nil, exOps_cons, exOp_eq, nx_eq, cur_eq, stepQ, ev, lk, putT, erA, inB, opt, bnd, req, ret, onQ, ap, up, er, AV.isAgg, ldP, ldE, ldC, ldS, Kd.agg, comps, szL, csize, takeI, takeC, dropC, stP, stE, stC, stS, true_and, and_self, Nat.reduceEqDiff, Nat.reduceLT, Nat.reduceLeDiff, Nat.reduceAdd, Nat.reduceSub, Nat.sub_self, Nat.le_refl, Nat.add_zero, Nat.zero_add, if_true, if_false, reduceCtorEq, Option.bind_some, Option.map_some, List.append_nil, List.nil_append, tt_67]
    refine hK _ ?_
    clear hK K
    refine W.ret ?_
    simp only [fin_ret, finB, resQ, resV, leL, AV.nmIn, AV.nmInL, entsIn, lk, opt, bnd, req, ret, onQ, AV.isTup, ldP, ldE, ldC, ldS, Kd.agg, comps, csize, takeI, takeC, dropC, and_self, Nat.reduceEqDiff, Nat.reduceLT, Nat.reduceLeDiff, Nat.reduceSub, Nat.sub_self, Nat.le_refl, Nat.add_zero, if_true, if_false, reduceCtorEq, Option.bind_some, Option.map_some, tt_67]
end Go.Proofs.YtakgcmponelbeaaDoor.Tg
