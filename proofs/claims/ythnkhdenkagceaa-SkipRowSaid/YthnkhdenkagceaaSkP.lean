/- Skipped keys: the texts' Same, the document's Drop and Heads. -/
import Derived.Test.YthnkhdenkagceaaSkO
-- TT 3 4 9 22 24 28 33 29 47
-- SIMP viewEL_its nm_its free_its
set_option linter.unusedVariables false
set_option linter.unusedSimpArgs false
namespace Go.Proofs.Ythnkhdenkagceaa
open Sx
set_option maxRecDepth 100000
set_option maxHeartbeats 1000000
/-- The same texts? -/
def sameS (a b : List ByteArray) : Bool := decide (a.map ByteArray.toList = b.map ByteArray.toList)
theorem sameS_len {a b : List ByteArray} (h : a.length ≠ b.length) : sameS a b = false := by
  rw [sameS, decide_eq_false_iff_not]; intro e
  have := congrArg List.length e
  simp only [List.length_map] at this; exact h this
theorem sameS_at {a b : List ByteArray} {k : Nat} (h : k < a.length) (h' : k < b.length) (hn : sEq a[k] b[k] = false) : sameS a b = false := by
  rw [sameS, decide_eq_false_iff_not]; intro e
  have e2 : (a.map ByteArray.toList)[k]'(by simpa using h) = (b.map ByteArray.toList)[k]'(by simpa using h') := by simp only [e]
  simp only [List.getElem_map] at e2
  rw [sEq, e2] at hn; simp at hn
theorem sameS_all {a b : List ByteArray} (h : a.length = b.length) (hb : ∀ j (h : j < a.length) (h' : j < b.length), sEq a[j] b[j] = true) : sameS a b = true := by
  rw [sameS, decide_eq_true_iff]
  refine List.ext_getElem (by simpa using h) (fun j h1 h2 => ?_)
  simp only [List.length_map] at h1 h2
  have := hb j h1 h2
  simpa [sEq] using this
theorem sSame_len (a b : List ByteArray) (h : a.length ≠ b.length) : FnR Try.prog G 19 [.lstS a, .lstS b] [] (.bool (sameS a b)) [] := by
  rw [sameS_len h]
  have c1 : ((a.length : Int) != (b.length : Nat)) = true := by rw [bne_iff_ne]; omega
  refine FnR.of_walk (m := 26) (n0 := 0) tt_ok Try.func19 rfl rfl (by simp) (by simp [nmH]) ?_
  rw [show Try.f19.results.toList = [.tmp 4] from rfl]
  refine W.seqK fun K hK => W.regionK tt_ok ?_
  simp only [exOps_nil, exOps_cons, exOp_eq, nx_eq, cur_eq, stepQ, ev, ofV, parT, putT, erA, inB, opt, ret, onQ, ap, true_and, Nat.reduceEqDiff, Nat.reduceLT, Nat.zero_add, if_false, reduceCtorEq]
  refine hK _ ?_
  clear hK K
  refine W.seqK fun Kx hKx => ?_
  refine W.seqK fun K hK => W.regionK tt_ok ?_
  simp only [exOps_nil, exOps_cons, exOp_eq, exCall_eq, nx_eq, cur_eq, evL, stepQ, ev, lk, putT, erA, inB, opt, bnd, req, ret, onQ, ap, binG, binF, intF, bltQ, bltV, lenF, true_and, and_self, or_false, Nat.reduceEqDiff, Nat.reduceLT, Nat.reduceAdd, if_true, if_false, reduceCtorEq, List.getElem?_cons_zero, Option.bind_some, Option.map_some, tt_47, c1]
  refine hK _ ?_
  clear hK K
  refine W.cond (b := true) (by simp only [ev, lk, Nat.reduceEqDiff, if_true, if_false, reduceCtorEq]) (fun _ => ?_) (fun h => absurd h (by simp))
  refine W.seqK fun K hK => W.regionK tt_ok ?_
  simp only [exOps_nil, exOps_cons, exOp_eq, nx_eq, cur_eq, stepQ, ev, ofV, putT, erA, inB, opt, ret, onQ, ap, true_and, Nat.reduceEqDiff, Nat.reduceLT, Nat.reduceAdd, if_true, if_false, reduceCtorEq]
  refine hK _ ?_
  clear hK K
  refine W.ret ?_
  simp only [fin_ret, finB, resQ, resV, leL, AV.nmIn, entsIn, lk, opt, bnd, req, ret, onQ, AV.isTup, thn_ret, and_self, Nat.reduceEqDiff, if_true, if_false, reduceCtorEq]
theorem sSame_fn (a b : List ByteArray) (hl : a.length ≤ 1000000) : FnR Try.prog G 19 [.lstS a, .lstS b] [] (.bool (sameS a b)) [] := by
  by_cases h : a.length = b.length
  case neg => exact sSame_len a b h
  have c1 : ((a.length : Int) != (b.length : Nat)) = false := by rw [bne_eq_false_iff_eq]; omega
  refine FnR.of_walk (m := 26) (n0 := 0) tt_ok Try.func19 rfl rfl (by simp) (by simp [nmH]) ?_
  rw [show Try.f19.results.toList = [.tmp 4] from rfl]
  refine W.seqK fun K hK => W.regionK tt_ok ?_
  simp only [exOps_nil, exOps_cons, exOp_eq, nx_eq, cur_eq, stepQ, ev, ofV, parT, putT, erA, inB, opt, ret, onQ, ap, true_and, Nat.reduceEqDiff, Nat.reduceLT, Nat.zero_add, if_false, reduceCtorEq]
  refine hK _ ?_
  clear hK K
  refine W.seqK fun Kx hKx => ?_
  refine W.seqK fun K hK => W.regionK tt_ok ?_
  simp only [exOps_nil, exOps_cons, exOp_eq, exCall_eq, nx_eq, cur_eq, evL, stepQ, ev, lk, putT, erA, inB, opt, bnd, req, ret, onQ, ap, binG, binF, intF, bltQ, bltV, lenF, true_and, and_self, or_false, Nat.reduceEqDiff, Nat.reduceLT, Nat.reduceAdd, if_true, if_false, reduceCtorEq, List.getElem?_cons_zero, Option.bind_some, Option.map_some, tt_47, c1]
  refine hK _ ?_
  clear hK K
  refine W.cond (b := false) (by simp only [ev, lk, Nat.reduceEqDiff, if_true, if_false, reduceCtorEq]) (fun h => absurd h (by simp)) (fun _ => W.skip ?_)
  simp only [thn_normal]
  refine hKx _ ?_
  refine W.seqK fun Ky hKy => ?_
  refine W.seqK fun K hK => W.regionK tt_ok ?_
  simp only [exOps_nil, exOps_cons, exOp_eq, nx_eq, cur_eq, stepQ, ev, ofV, putT, erA, inB, opt, ret, onQ, ap, true_and, Nat.reduceEqDiff, Nat.reduceLT, Nat.reduceAdd, if_false, reduceCtorEq]
  refine hK _ ?_
  clear hK K
  refine W.blockK ?_
  refine W.loopK (fun k : Nat => k ≤ a.length ∧ ∀ j (h : j < a.length) (h' : j < b.length), j < k → sEq a[j] b[j] = true) (fun k => ⟨[(0, .lstS a), (1, .lstS b), (5, .int .i64 (k : Int))], [], 512, 26⟩) (fun k => a.length - k) 0 (by simp) (by simp [wk, leL, lk, nmT, nmE, nmH, AV.nmIn]) ?_
  rintro k ⟨hk, hb⟩ K3 hK3
  by_cases hlt : k < a.length
  · have c2 : (k : Int) < (a.length : Nat) := by omega
    have hlt' : k < b.length := by omega
    have he : a.getD k ByteArray.empty = a[k] := by simp [List.getD_eq_getElem?_getD, hlt]
    have he' : b.getD k ByteArray.empty = b[k] := by simp [List.getD_eq_getElem?_getD, hlt']
    cases hB : sEq a[k] b[k] with
    | false =>
      have hB' : (a[k].toList == b[k].toList) = false := hB
      refine W.seqK fun K0 hK0 => ?_
      refine W.seqK fun K hK => W.regionK tt_ok ?_
      simp only [decide_true, exOps_nil, exOps_cons, exOp_eq, exCall_eq, nx_eq, cur_eq, evL, stepQ, ev, lk, putT, erA, inB, opt, bnd, req, ret, onQ, ap, binG, binF, intF, bltQ, bltV, lenF, true_and, and_self, or_false, Nat.reduceEqDiff, Nat.reduceLT, Nat.reduceAdd, if_true, if_false, reduceCtorEq, List.getElem?_cons_zero, Option.bind_some, Option.map_some, tt_47, c2]
      refine hK _ ?_
      clear hK K
      refine W.cond (b := true) (by simp only [ev, lk, Nat.reduceEqDiff, if_true, if_false, reduceCtorEq]) (fun _ => W.skip ?_) (fun h => absurd h (by simp))
      rw [thn_normal]
      refine hK0 _ ?_
      clear hK0 K0
      refine W.seqK fun K hK => W.blockK ?_
      refine W.seqK fun K hK => W.drawK [⟨0, false, [], false⟩, ⟨0, false, [], false⟩, ⟨0, false, [0, 1], false⟩, ⟨0, false, [0, 1, 2], false⟩, ⟨0, false, [], false⟩, ⟨0, false, [], false⟩, ⟨0, false, [4, 5], false⟩, ⟨0, false, [4, 5, 6], false⟩, ⟨0, false, [0, 1, 2, 3, 4, 5, 6, 7], false⟩] mix tt_ok (by kernel_rfl) ?_
      simp only [Bool.not_false, exOp_eq, exD_nil, exD_cons, nxD_eq, cur_eq, flI, ownB, stepQ, ev, lk, putT, erA, inB, opt, bnd, req, ret, onQ, ap, binG, binF, strF, Kd.elem, ixA, asI, ldP, ldC, ldS, Kd.agg, comps, csize, takeI, takeC, dropC, and_true, true_and, and_self, Nat.reduceEqDiff, Nat.reduceLT, Nat.reduceLeDiff, Nat.reduceAdd, Nat.reduceSub, Nat.sub_self, Int.toNat_natCast, Nat.le_refl, if_true, if_false, Bool.false_eq_true, reduceCtorEq, Option.bind_some, Option.map_some, tt_9, tt_47, he, he', Int.toNat_natCast, hB']
      repeat (refine ⟨by omega, ?_⟩)
      refine hK _ ?_
      clear hK K
      refine W.cond (b := true) (by simp only [ev, lk, Nat.reduceEqDiff, if_true, if_false, reduceCtorEq]) (fun _ => ?_) (fun h => absurd h (by simp))
      refine W.seqK fun K hK => W.regionK tt_ok ?_
      simp only [exOps_nil, exOps_cons, exOp_eq, nx_eq, cur_eq, stepQ, ev, ofV, putT, erA, inB, opt, ret, onQ, ap, true_and, Nat.reduceEqDiff, Nat.reduceLT, Nat.reduceAdd, if_false, reduceCtorEq]
      refine hK _ ?_
      clear hK K
      refine W.ret ?_
      simp only [fin_ret, finB, resQ, resV, leL, AV.nmIn, entsIn, lk, opt, bnd, req, ret, onQ, AV.isTup, thn_ret, inb_ret, and_true, true_and, and_self, Nat.reduceEqDiff, if_true, if_false, reduceCtorEq]
      rw [sameS_at hlt hlt' hB]
    | true =>
      have hB' : (a[k].toList == b[k].toList) = true := hB
      refine W.seqK fun K0 hK0 => ?_
      refine W.seqK fun K hK => W.regionK tt_ok ?_
      simp only [decide_true, exOps_nil, exOps_cons, exOp_eq, exCall_eq, nx_eq, cur_eq, evL, stepQ, ev, lk, putT, erA, inB, opt, bnd, req, ret, onQ, ap, binG, binF, intF, bltQ, bltV, lenF, true_and, and_self, or_false, Nat.reduceEqDiff, Nat.reduceLT, Nat.reduceAdd, if_true, if_false, reduceCtorEq, List.getElem?_cons_zero, Option.bind_some, Option.map_some, tt_47, c2]
      refine hK _ ?_
      clear hK K
      refine W.cond (b := true) (by simp only [ev, lk, Nat.reduceEqDiff, if_true, if_false, reduceCtorEq]) (fun _ => W.skip ?_) (fun h => absurd h (by simp))
      rw [thn_normal]
      refine hK0 _ ?_
      clear hK0 K0
      refine W.seqK fun K hK => W.blockK ?_
      refine W.seqK fun K hK => W.drawK [⟨0, false, [], false⟩, ⟨0, false, [], false⟩, ⟨0, false, [0, 1], false⟩, ⟨0, false, [0, 1, 2], false⟩, ⟨0, false, [], false⟩, ⟨0, false, [], false⟩, ⟨0, false, [4, 5], false⟩, ⟨0, false, [4, 5, 6], false⟩, ⟨0, false, [0, 1, 2, 3, 4, 5, 6, 7], false⟩] mix tt_ok (by kernel_rfl) ?_
      simp only [Bool.not_true, exOp_eq, exD_nil, exD_cons, nxD_eq, cur_eq, flI, ownB, stepQ, ev, lk, putT, erA, inB, opt, bnd, req, ret, onQ, ap, binG, binF, strF, Kd.elem, ixA, asI, ldP, ldC, ldS, Kd.agg, comps, csize, takeI, takeC, dropC, and_true, true_and, and_self, Nat.reduceEqDiff, Nat.reduceLT, Nat.reduceLeDiff, Nat.reduceAdd, Nat.reduceSub, Nat.sub_self, Int.toNat_natCast, Nat.le_refl, if_true, if_false, Bool.false_eq_true, reduceCtorEq, Option.bind_some, Option.map_some, tt_9, tt_47, he, he', Int.toNat_natCast, hB']
      repeat (refine ⟨by omega, ?_⟩)
      refine hK _ ?_
      clear hK K
      refine W.cond (b := false) (by simp only [ev, lk, Nat.reduceEqDiff, if_true, if_false, reduceCtorEq]) (fun h => absurd h (by simp)) (fun _ => W.skip ?_)
      simp only [thn_normal, inb_normal]
      refine hK _ ?_
      refine W.region tt_ok ?_
      simp only [exOps_nil, exOps_cons, exOp_eq, nx_eq, cur_eq, stepQ, ev, ofV, lk, putT, erA, inB, opt, bnd, req, ret, onQ, ap, binG, binF, intF, thn_normal, true_and, and_self, Nat.reduceEqDiff, Nat.reduceLT, Nat.reduceAdd, if_true, if_false, reduceCtorEq, wrap_up k (by omega)]
      refine hK3 _ (k + 1) ⟨by omega, fun j h1 h1' h2 => ?_⟩ (by omega) ?_
      · by_cases hjk : j = k
        · subst hjk; exact hB
        · exact hb j h1 h1' (by omega)
      · simp [wk, leL, lk, nmT, nmE, nmH, AV.nmIn]
  have hk' : k = a.length := by omega
  subst hk'
  have c2 : ¬ ((a.length : Nat) : Int) < (a.length : Nat) := by omega
  refine W.seqK fun K0 hK0 => ?_
  refine W.seqK fun K hK => W.regionK tt_ok ?_
  simp only [decide_false, exOps_nil, exOps_cons, exOp_eq, exCall_eq, nx_eq, cur_eq, evL, stepQ, ev, lk, putT, erA, inB, opt, bnd, req, ret, onQ, ap, binG, binF, intF, bltQ, bltV, lenF, true_and, and_self, or_false, Nat.reduceEqDiff, Nat.reduceLT, Nat.reduceAdd, if_true, if_false, reduceCtorEq, List.getElem?_cons_zero, Option.bind_some, Option.map_some, tt_47, c2]
  refine hK _ ?_
  clear hK K
  refine W.cond (b := false) (by simp only [ev, lk, Nat.reduceEqDiff, if_true, if_false, reduceCtorEq]) (fun h => absurd h (by simp)) (fun _ => W.exit ?_)
  simp only [thn_normal, thn_exit, inb_exit, if_true]
  clear hK0 K0
  refine hKy _ ?_
  refine W.seqK fun K hK => W.regionK tt_ok ?_
  simp only [exOps_nil, exOps_cons, exOp_eq, nx_eq, cur_eq, stepQ, ev, ofV, putT, erA, inB, opt, ret, onQ, ap, true_and, Nat.reduceEqDiff, Nat.reduceLT, Nat.reduceAdd, if_false, reduceCtorEq]
  refine hK _ ?_
  clear hK K
  refine W.ret ?_
  simp only [fin_ret, finB, resQ, resV, leL, AV.nmIn, entsIn, lk, opt, bnd, req, ret, onQ, AV.isTup, and_true, true_and, and_self, Nat.reduceEqDiff, if_true, if_false, reduceCtorEq]
  rw [sameS_all h (fun j h1 h2 => hb j h1 h2 h1)]
theorem call19 : Callable Try.prog 19 := ⟨_, Try.func19, by kernel_rfl, by kernel_rfl⟩
end Go.Proofs.Ythnkhdenkagceaa
