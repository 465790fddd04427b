/- The document's names. -/
import Derived.Test.YtjnhpklhdikcdaaTmV
-- TT 3 4 5 9 24 28 35 47 51 53 63 74
set_option linter.unusedVariables false
set_option linter.unusedSimpArgs false
namespace Go.Proofs.Ytjnhpklhdikcdaa
open Sx
set_option maxRecDepth 100000
set_option maxHeartbeats 2000000
def wN (n : Int) (k : Nat) : List Int := (List.range k).map fun j => nC n (8 - k + j)
theorem wN_succ (n : Int) (k : Nat) (hk : k < 8) : wN n (k + 1) = nC n (7 - k) :: wN n k := by
  rw [wN, List.range_succ_eq_map, List.map_cons, List.map_map, wN]
  congr 1
  · congr 1; omega
  · apply List.map_congr_left
    intro j _
    show nC n (8 - (k + 1) + (j + 1)) = nC n (8 - k + j)
    congr 1; omega
theorem wN_8 (n : Int) : wN n 8 = be8 n := by
  rw [wN, be8]
  apply List.map_congr_left
  intro j _
  congr 1; omega
theorem rname_fn (n : Int) (hn : 0 ≤ n ∧ n < 9223372036854775808) : FnR Try.prog G 16 [.int .i64 n] [] (.str (nmS n)) [] := by
  rw [nmS_eq]
  refine FnR.of_walk (m := 20) (n0 := 0) tt_ok Try.func16 rfl rfl (by simp) (by simp [nmH]) ?_
  rw [show Try.f16.results.toList = [.tmp 2] from rfl]
  refine W.seqK fun K hK => W.regionK tt_ok ?_
  simp only [exOps_nil, exOps_cons, exOp_eq, nx_eq, cur_eq, stepQ, ev, ofV, parT, putT, erA, inB, opt, ret, onQ, ap, true_and, Nat.reduceLT, Nat.zero_add, if_false, reduceCtorEq]
  refine hK _ ?_
  clear hK K
  refine W.seqK fun K hK => W.regionK tt_ok ?_
  simp only [exOps_nil, exOps_cons, exOp_eq, nx_eq, cur_eq, stepQ, ev, ofV, putT, erA, inB, opt, ret, onQ, ap, true_and, Nat.reduceEqDiff, Nat.reduceLT, Nat.reduceAdd, if_false, reduceCtorEq]
  refine hK _ ?_
  clear hK K
  refine W.seqK fun Kx hKx => ?_
  refine W.seqK fun K hK => W.regionK tt_ok ?_
  simp only [exOps_nil, exOps_cons, exOp_eq, nx_eq, cur_eq, stepQ, ev, ofV, putT, erA, inB, opt, ret, onQ, ap, true_and, Nat.reduceEqDiff, Nat.reduceLT, Nat.reduceAdd, if_false, reduceCtorEq]
  refine hK _ ?_
  clear hK K
  refine W.blockK ?_
  refine W.loopK (fun k : Nat => k ≤ 8) (fun k => ⟨[(0, .int .i64 (n / 2 ^ (8 * k))), (3, .str (strOf (wN n k))), (4, .int .i64 (k : Int))], [], 1024, 20⟩) (fun k => 8 - k) 0 (by simp) (by simp [wk, leL, lk, nmT, nmE, nmH, AV.nmIn]; rfl) ?_
  intro k hk K3 hK3
  by_cases hlt : k < 8
  · have l1 : (k : Int) < 8 := by omega
    have hp : (0 : Int) < 2 ^ (8 * k) := Int.pow_pos (by decide)
    have hq : 0 ≤ n / 2 ^ (8 * k) := Int.ediv_nonneg hn.1 (by omega)
    have hq2 : n / 2 ^ (8 * k) ≤ n := Int.ediv_le_self _ hn.1
    have hs := wN_succ n k hlt
    have hd : n / 2 ^ (8 * k) / 256 = n / 2 ^ (8 * (k + 1)) := by
      rw [Int.ediv_ediv_of_nonneg (Int.le_of_lt hp), show 8 * (k + 1) = 8 * k + 8 from by omega, Int.pow_add]
      rfl
    have hc : nC n (7 - k) = n / 2 ^ (8 * k) % 256 := by
      rw [nC_eq, show 56 - 8 * (7 - k) = 8 * k from by omega]
    have hsz : (strOf (wN n k)).size = k := by rw [strOf_size]; simp [wN]
    generalize n / 2 ^ (8 * k) = m at *
    have hw0 : IntKind.u8.wrap (m.tmod 256) = m % 256 := by
      rw [Int.tmod_eq_emod_of_nonneg hq, IntKind.wrap_u8]; omega
    have hw1 : IntKind.i64.wrap (m.tdiv 256) = m / 256 := by
      rw [Int.tdiv_eq_ediv_of_nonneg hq, IntKind.wrap_i64]; omega
    have hwk : IntKind.i64.wrap ((k : Int) + 1) = ((k + 1 : Nat) : Int) := by rw [IntKind.wrap_i64]; omega
    refine W.seqK fun K0 hK0 => ?_
    refine W.seqK fun K hK => W.regionK tt_ok ?_
    simp only [decide_true, exOps_nil, exOps_cons, exOp_eq, nx_eq, cur_eq, stepQ, ev, ofV, lk, putT, erA, inB, opt, bnd, req, ret, onQ, ap, binG, binF, intF, true_and, and_self, Nat.reduceEqDiff, Nat.reduceLT, Nat.reduceAdd, if_true, if_false, reduceCtorEq, l1]
    refine hK _ ?_
    clear hK K
    refine W.cond (b := true) (by simp only [ev, lk, Nat.reduceEqDiff, if_true, if_false, reduceCtorEq]) (fun _ => W.skip ?_) (fun h => absurd h (by simp))
    rw [thn_normal]
    refine hK0 _ ?_
    clear hK0 K0
    refine W.seqK fun K hK => W.blockK ?_
    refine W.seqK fun K hK => W.regionK tt_ok ?_
    simp only [exOps_nil, exOps_cons, exOp_eq, nx_eq, cur_eq, evP, stepQ, ev, ofV, lk, putT, erA, inB, opt, bnd, req, ret, onQ, ap, up, er, AV.isTup, AV.isAgg, binG, binF, intF, strF, intsOf, Kd.agg, comps, szL, csize, takeI, takeC, dropC, stC, stS, cvQ, s2bQ, srcQ, Row.len, Row.sz, Row.take, Row.drop, Ent.row, bldA, bslQ, zeroCs, cellsRow, and_true, true_and, and_self, and_false, Nat.reduceEqDiff, Nat.reduceLT, Nat.reduceLeDiff, Nat.reduceAdd, Nat.reduceSub, Nat.reduceMul, Nat.sub_self, Nat.le_refl, Nat.add_zero, Nat.zero_add, if_true, if_false, Bool.false_eq_true, reduceCtorEq, ne_eq, not_false_eq_true, forall_const, Option.bind_some, Option.map_some, List.append_nil, List.nil_append, List.cons_append, tt_3, tt_5, tt_9, tt_47, hw0, lit1, List.set_cons_zero, List.length_cons, List.length_nil, List.drop_zero, List.take_succ_cons, List.take_zero]
    refine ⟨by decide, by rw [strOf_size, hsz]; simp; omega, ?_⟩
    rw [← strOf_append, List.singleton_append, ← hc, ← hs]
    refine hK _ ?_
    clear hK K
    refine W.region tt_ok ?_
    simp only [exOps_nil, exOps_cons, exOp_eq, nx_eq, cur_eq, stepQ, ev, ofV, lk, putT, erA, inB, opt, bnd, req, ret, onQ, ap, binG, binF, intF, thn_normal, inb_normal, and_true, true_and, Nat.reduceEqDiff, Nat.reduceLT, Nat.reduceAdd, if_true, if_false, reduceCtorEq, ne_eq, hw1]
    refine ⟨by decide, ?_⟩
    refine hK _ ?_
    refine W.region tt_ok ?_
    simp only [exOps_nil, exOps_cons, exOp_eq, nx_eq, cur_eq, stepQ, ev, ofV, lk, putT, erA, inB, opt, bnd, req, ret, onQ, ap, binG, binF, intF, thn_normal, true_and, and_self, Nat.reduceEqDiff, Nat.reduceLT, Nat.reduceAdd, if_true, if_false, reduceCtorEq, hwk]
    refine hK3 _ (k + 1) (by omega) (by omega) ?_
    simp [hd, wk, leL, lk, nmT, nmE, nmH, AV.nmIn]
  · obtain rfl : k = 8 := by omega
    have l1 : ¬ ((8 : Nat) : Int) < 8 := by omega
    refine W.seqK fun K0 hK0 => ?_
    refine W.seqK fun K hK => W.regionK tt_ok ?_
    simp only [decide_false, exOps_nil, exOps_cons, exOp_eq, nx_eq, cur_eq, stepQ, ev, ofV, lk, putT, erA, inB, opt, bnd, req, ret, onQ, ap, binG, binF, intF, true_and, and_self, Nat.reduceEqDiff, Nat.reduceLT, Nat.reduceAdd, Nat.reduceMul, if_true, if_false, reduceCtorEq, l1]
    refine hK _ ?_
    clear hK K
    refine W.cond (b := false) (by simp only [ev, lk, Nat.reduceEqDiff, if_true, if_false, reduceCtorEq]) (fun h => absurd h (by simp)) (fun _ => W.exit ?_)
    simp only [thn_normal, thn_exit, inb_exit, if_true]
    clear hK0 K0
    refine hKx _ ?_
    have hsz : (strOf (wN n 8)).size = 8 := by rw [strOf_size]; simp [wN]
    rw [wN_8] at *
    refine W.seqK fun K hK => W.regionK tt_ok ?_
    simp only [exOps_nil, exOps_cons, exOp_eq, nx_eq, cur_eq, stepQ, ev, ofV, lk, putT, erA, inB, opt, bnd, req, ret, onQ, ap, binG, binF, strF, and_true, true_and, Nat.reduceEqDiff, Nat.reduceLT, Nat.reduceAdd, if_true, if_false, reduceCtorEq]
    refine ⟨by rw [hsz]; decide, ?_⟩
    refine hK _ ?_
    clear hK K
    refine W.ret ?_
    simp only [fin_ret, finB, resQ, resV, leL, AV.nmIn, entsIn, lk, opt, bnd, req, ret, onQ, AV.isTup, and_true, true_and, and_self, Nat.reduceEqDiff, if_true, if_false, reduceCtorEq]
    rw [← ByteArray.append_assoc]
    rfl
theorem call16 : Callable Try.prog 16 := ⟨_, Try.func16, by kernel_rfl, by kernel_rfl⟩
end Go.Proofs.Ytjnhpklhdikcdaa
