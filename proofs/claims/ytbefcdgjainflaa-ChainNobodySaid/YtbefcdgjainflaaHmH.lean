/- A term's name. -/
import Derived.Test.YtbefcdgjainflaaHmB
import Derived.Test.YtbefcdgjainflaaHmF
-- TT 3 4 5 9 94 29 39 56 58 30
set_option linter.unusedVariables false
set_option linter.unusedSectionVars false
set_option linter.unusedSimpArgs false
namespace Go.Proofs.Ytbefcdgjainflaa
open Sx
variable [Inhabited Tabs]
set_option maxRecDepth 100000
set_option maxHeartbeats 1000000
def tS : ByteArray := { data := #[116, 101, 114, 109] }
def nmS (n : Int) : ByteArray := tS ++ zeroS (28 - (numK n 8).length) ++ strOf (numK n 8)
theorem strOf_size (l : List Int) : (strOf l).size = l.length := by simp [strOf, ByteArray.size]
theorem name_fn (n : Int) (hn : 0 ≤ n ∧ n < 9223372036854775807) : FnR Try.prog G 65 [.int .i64 n] [] (.str (nmS n)) [] := by
  have hw : IntKind.u64.wrap n = n := by rw [IntKind.wrap_u64]; omega
  have c1 := num_fn n (by omega)
  have hl := numK_le n 8
  have hz := strOf_size (numK n 8)
  have c2 := repeat_fn (28 - (numK n 8).length) (by omega)
  have hw2 : IntKind.i64.wrap (28 - ((strOf (numK n 8)).size : Int)) = ((28 - (numK n 8).length : Nat) : Int) := by rw [IntKind.wrap_i64]; omega
  rw [nmS, tS]
  rw [← hw2] at c2
  generalize strOf (numK n 8) = s at *
  have hzs : (zeroS (28 - (numK n 8).length)).size = 28 - (numK n 8).length := by simp [zeroS, ByteArray.size]
  generalize zeroS (28 - (numK n 8).length) = z at *
  refine FnR.of_walk (m := 14) (n0 := 0) tt_ok Try.func65 rfl rfl (by simp) (by simp [nmH]) ?_
  rw [show Try.f65.results.toList = [.tmp 2] from rfl]
  refine W.seqK fun K hK => W.regionK tt_ok ?_
  simp only [exOps_nil, exOps_cons, exOp_eq, nx_eq, cur_eq, stepQ, ev, ofV, parT, putT, erA, inB, opt, ret, onQ, ap, true_and, Nat.reduceLT, Nat.zero_add, if_false, reduceCtorEq]
  refine hK _ ?_
  clear hK K
  refine W.seqK fun K hK => W.regionK tt_ok ?_
  simp only [exOps_cons, exOp_eq, exCall_eq, nx_eq, cur_eq, evL, stepQ, ev, lk, putT, erA, inB, opt, bnd, req, ret, onQ, ap, cvQ, true_and, and_self, Nat.reduceEqDiff, Nat.reduceLT, Nat.reduceAdd, if_true, if_false, reduceCtorEq, Option.bind_some, Option.map_some, tt_3, tt_94, hw]
  refine CallK.pure _ _ c1 call62 (by simp only [AV.nmIn, bnd, req, ret, onQ, AV.isTup, isTupL, true_and, and_self, Bool.false_eq_true, List.append_nil, vw.vwL, vw, AV.free, Bool.or_self]; all_goals (and_intros <;> first | exact AV.subL_refl _ | omega | (simp [AV.sub]; done) | rfl | (simp [AV.subL_refl]; done) | (simp; exact AV.subL_refl _))) ?_
  simp only [exOps_nil, exOps_cons, exOp_eq, nx_eq, cur_eq, stepQ, ev, lk, putT, erA, inB, opt, ret, onQ, ap, true_and, Nat.reduceEqDiff, Nat.reduceLT, Nat.reduceAdd, if_true, if_false, reduceCtorEq]
  refine hK _ ?_
  clear hK K
  refine W.seqK fun K hK => W.regionK tt_ok ?_
  simp only [exOps_cons, exOp_eq, exCall_eq, nx_eq, cur_eq, evL, stepQ, ev, ofV, lk, putT, erA, inB, opt, bnd, req, ret, onQ, ap, binI, binG, binF, intF, bltQ, bltV, lenF, true_and, and_self, or_false, Nat.reduceEqDiff, Nat.reduceLT, Nat.reduceAdd, if_true, if_false, reduceCtorEq, List.getElem?_cons_zero, Option.bind_some, Option.map_some, tt_9]
  refine CallK.pure _ _ c2 call70 (by simp only [AV.nmIn, bnd, req, ret, onQ, AV.isTup, isTupL, true_and, and_self, Bool.false_eq_true, List.append_nil, vw.vwL, vw, AV.free, Bool.or_self]; all_goals (and_intros <;> first | exact AV.subL_refl _ | omega | (simp [AV.sub]; done) | rfl | (simp [AV.subL_refl]; done) | (simp; exact AV.subL_refl _))) ?_
  simp only [exOps_nil, exOps_cons, exOp_eq, nx_eq, cur_eq, stepQ, ev, ofV, lk, putT, erA, inB, opt, bnd, req, ret, onQ, ap, binI, binG, binF, strF, and_true, true_and, Nat.reduceEqDiff, Nat.reduceLT, Nat.reduceAdd, if_true, if_false, reduceCtorEq]
  have ht : ({ data := #[116, 101, 114, 109] } : ByteArray).size = 4 := rfl
  refine ⟨by omega, by rw [ByteArray.size_append]; omega, ?_⟩
  refine hK _ ?_
  clear hK K
  refine W.ret ?_
  simp only [fin_ret, finB, resQ, resV, leL, AV.nmIn, entsIn, lk, opt, bnd, req, ret, onQ, AV.isTup, and_self, Nat.reduceEqDiff, if_true, if_false, reduceCtorEq]
theorem call65 : Callable Try.prog 65 := ⟨_, Try.func65, by kernel_rfl, by kernel_rfl⟩
end Go.Proofs.Ytbefcdgjainflaa
