/- codec's reader: take and byte. -/
import Derived.Test.YtjnhpklhdikcdaaTmA
import Derived.Test.YtjnhpklhdikcdaaSxW
-- TT 3 4 5 9 63 76 80
set_option linter.unusedVariables false
set_option linter.unusedSimpArgs false
namespace Go.Proofs.Ytjnhpklhdikcdaa
open Sx
set_option maxRecDepth 100000
set_option maxHeartbeats 1000000
theorem take_at (s : ByteArray) (n : Nat) (hn : n ≤ s.size) : FnR Try.prog G 44 [.ptr 0 0 0 1, .int .i64 n] [(0, .obj 80 (.agg [.str s]))] (.str (s.extract 0 n)) [(0, .obj 80 (.agg [.str (s.extract n s.size)]))] := by
  have h1 : (n : Int) ≤ s.size := by omega
  refine FnR.of_walk (m := 30) (n0 := 16) tt_ok Try.func44 rfl rfl (by simp) (by simp [nmH]) ?_
  rw [show Try.f44.results.toList = [.tmp 4] from rfl]
  refine W.seqK fun K hK => W.regionK tt_ok ?_
  simp only [exOps_nil, exOps_cons, exOp_eq, nx_eq, cur_eq, stepQ, ev, ofV, parT, putT, erA, inB, opt, ret, onQ, ap, true_and, Nat.reduceEqDiff, Nat.reduceLT, Nat.reduceAdd, Nat.zero_add, if_false, reduceCtorEq]
  refine hK _ ?_
  clear hK K
  refine W.seqK fun K hK => W.regionK tt_ok ?_
  simp only [decide_true, exOps_cons, exOp_eq, exCall_eq, nx_eq, cur_eq, evL, stepQ, ev, lk, putT, erA, inB, opt, bnd, req, ret, onQ, ap, binG, binF, intF, notNil, ldP, ldE, ldC, ldS, Kd.agg, comps, csize, takeI, takeC, dropC, fldF, bltQ, bltV, lenF, true_and, and_self, or_false, Nat.reduceEqDiff, Nat.reduceLT, Nat.reduceLeDiff, Nat.reduceAdd, Nat.reduceSub, Nat.sub_self, Nat.le_refl, Nat.add_zero, if_true, if_false, Bool.false_eq_true, reduceCtorEq, ne_eq, not_false_eq_true, List.getElem?_cons_zero, Option.bind_some, Option.map_some, tt_9, tt_80, h1]
  refine CallK.pure _ _ need_fn call42 (by simp only [AV.nmIn, bnd, req, ret, onQ, AV.isTup, isTupL, true_and, and_self, Bool.false_eq_true, List.append_nil, vw.vwL, vw, AV.free, AV.freeL, Bool.or_self]; all_goals (and_intros <;> first | exact AV.subL_refl _ | omega | (simp [AV.sub]; done) | rfl | (simp [AV.subL_refl]; done) | (simp; exact AV.subL_refl _))) ?_
  simp only [exOps_nil, nx_eq, putT, erA, ap, Nat.reduceEqDiff, Nat.reduceAdd, if_false, reduceCtorEq]
  refine hK _ ?_
  clear hK K
  refine W.seqK fun K hK => W.regionK tt_ok ?_
  simp only [exOps_nil, exOps_cons, exOp_eq, nx_eq, cur_eq, stepQ, ev, ofV, putT, erA, inB, opt, ret, onQ, ap, true_and, Nat.reduceEqDiff, Nat.reduceLT, Nat.reduceAdd, if_false, reduceCtorEq]
  refine hK _ ?_
  clear hK K
  refine W.seqK fun K hK => W.drawK [⟨0, false, [], false⟩, ⟨0, false, [], false⟩, ⟨0, false, [1], false⟩, ⟨0, false, [1, 2], false⟩, ⟨0, false, [1, 2, 3], false⟩, ⟨0, false, [], false⟩, ⟨0, false, [1, 2, 3, 4, 5], false⟩, ⟨0, false, [], false⟩, ⟨0, false, [7], false⟩, ⟨0, false, [7, 8], false⟩, ⟨0, false, [7, 8, 9], false⟩, ⟨0, false, [], false⟩, ⟨0, false, [7, 8, 9, 10, 11], false⟩, ⟨0, false, [1, 2, 3, 4, 5, 6], false⟩, ⟨0, false, [0, 1, 2, 3, 4, 5, 6, 7, 8, 9, 10, 11, 12, 13], false⟩, ⟨0, false, [0, 1, 2, 3, 4, 5, 6, 7, 8, 9, 10, 11, 12, 13, 14], false⟩, ⟨2, false, [0, 1, 2, 3, 4, 5, 6, 7, 8, 9, 10, 11, 12, 13, 14, 15], false⟩] mix tt_ok (by kernel_rfl) ?_
  simp only [exOp_eq, exD_nil, exD_cons, nxD_eq, cur_eq, flI, ownB, stepQ, ev, lk, putT, erA, inB, opt, bnd, req, ret, onQ, ap, up, er, AV.isTup, AV.isAgg, notNil, ldP, ldE, ldC, ldS, Kd.agg, comps, szL, csize, takeI, takeC, dropC, stP, stE, stC, stS, fldF, slF, bd, bds, and_true, true_and, and_self, and_false, Nat.reduceEqDiff, Nat.reduceLT, Nat.reduceLeDiff, Nat.reduceAdd, Nat.reduceSub, Nat.sub_self, Int.toNat_natCast, Nat.le_refl, Nat.add_zero, Nat.zero_add, if_true, if_false, Bool.false_eq_true, reduceCtorEq, ne_eq, not_false_eq_true, List.getElem?_cons_zero, Option.bind_some, Option.map_some, List.append_nil, List.nil_append, tt_9, tt_80]
  refine ⟨⟨by omega, hn⟩, ⟨by omega, hn⟩, ?_⟩
  refine hK _ ?_
  clear hK K
  refine W.seqK fun K hK => W.regionK tt_ok ?_
  simp only [exOps_nil, exOps_cons, exOp_eq, nx_eq, cur_eq, stepQ, ev, lk, putT, erA, inB, opt, ret, onQ, ap, true_and, Nat.reduceEqDiff, Nat.reduceLT, Nat.reduceAdd, if_true, if_false, reduceCtorEq]
  refine hK _ ?_
  clear hK K
  refine W.ret ?_
  simp only [fin_ret, finB, resQ, resV, leL, AV.nmIn, entsIn, lk, opt, bnd, req, ret, onQ, AV.isTup, and_true, true_and, and_self, Nat.reduceEqDiff, if_true, if_false, reduceCtorEq]
  simp [Ent.nmIn, AV.nmIn, AV.nmInL]
theorem call44 : Callable Try.prog 44 := ⟨_, Try.func44, by kernel_rfl, by kernel_rfl⟩
theorem take_ap (a b : ByteArray) : FnR Try.prog G 44 [.ptr 0 0 0 1, .int .i64 (a.size : Int)] [(0, .obj 80 (.agg [.str (a ++ b)]))] (.str a) [(0, .obj 80 (.agg [.str b]))] := by
  have h := take_at (a ++ b) a.size (by rw [ByteArray.size_append]; omega)
  rw [ByteArray.extract_append_eq_left rfl, ByteArray.extract_append_eq_right rfl ByteArray.size_append] at h
  exact h
theorem byte_at (c : UInt8) (b : ByteArray) : FnR Try.prog G 43 [.ptr 0 0 0 1] [(0, .obj 80 (.agg [.str ({ data := #[c] } ++ b)]))] (.int .i64 c.toNat) [(0, .obj 80 (.agg [.str b]))] := by
  have c1 := take_ap { data := #[c] } b
  rw [show (({ data := #[c] } : ByteArray).size : Int) = 1 from rfl] at c1
  refine FnR.of_walk (m := 7) (n0 := 16) tt_ok Try.func43 rfl rfl (by simp) (by simp [nmH]) ?_
  rw [show Try.f43.results.toList = [.tmp 2] from rfl]
  refine W.seqK fun K hK => W.regionK tt_ok ?_
  simp only [exOps_nil, exOps_cons, exOp_eq, nx_eq, cur_eq, stepQ, ev, ofV, parT, putT, erA, inB, opt, ret, onQ, ap, true_and, Nat.reduceLT, Nat.reduceAdd, if_false, reduceCtorEq]
  refine hK _ ?_
  clear hK K
  refine W.seqK fun K hK => W.regionK tt_ok ?_
  simp only [exOps_cons, exOp_eq, exCall_eq, nx_eq, cur_eq, evL, stepQ, ev, ofV, lk, putT, erA, inB, opt, ret, onQ, ap, true_and, Nat.reduceEqDiff, Nat.reduceLT, Nat.reduceAdd, if_true, if_false, reduceCtorEq, Option.bind_some, Option.map_some]
  refine CallK.with [(0, .obj 80 (.agg [.str ({ data := #[c] } ++ b)]))] [(0, .obj 80 (.agg [.str b]))] _ _ c1 call44 (by simp only [AV.nmIn, bnd, req, ret, onQ, AV.isTup, isTupL, and_true, true_and, and_self, Bool.false_eq_true, List.append_nil, vw.vwL, vw, AV.free, Bool.or_self]; all_goals (and_intros <;> first | exact AV.subL_refl _ | omega | (simp [AV.sub, entsFree, Ent.free]; done) | rfl | (simp [AV.subL_refl]; done))) (by simp [leL, lk]) (by intro n hn; first | (left; revert hn; simp [Nm, lk]; done) | (right; revert hn; simp only [Nm, lk]; split <;> simp <;> omega) | (by_cases h1 : Nm [(0, .obj 80 (.agg [.str ({ data := #[c] } ++ b)]))] n; exact .inl h1; right; revert hn h1; simp only [Nm, lk]; split <;> (try split) <;> (try split) <;> (try split) <;> (try simp) <;> (try omega))) (by simp [entsIn, Ent.nmIn, AV.nmIn, AV.nmInL]) ?_
  simp only [callDel, exOps_nil, exOps_cons, exOp_eq, nx_eq, cur_eq, stepQ, ev, ofV, lk, putT, erA, inB, opt, bnd, req, ret, onQ, ap, up, er, ixV, asI, cvQ, and_true, true_and, and_self, Nat.reduceEqDiff, Nat.reduceLT, Nat.reduceAdd, Int.reduceLE, Int.reduceToNat, if_true, if_false, reduceCtorEq, List.nil_append, List.cons_append, tt_3, tt_5, tt_9, List.map_cons, List.map_nil, List.reverse_cons, List.reverse_nil]
  refine ⟨by show (0 : Int) < 1; decide, ?_⟩
  refine hK _ ?_
  clear hK K
  have hc := c.toNat_lt
  have hb : bat { data := #[c] } 0 = c.toNat := rfl
  have hw : IntKind.i64.wrap (c.toNat : Int) = c.toNat := by rw [IntKind.wrap_i64]; omega
  rw [hb, hw]
  refine W.ret ?_
  simp only [fin_ret, finB, resQ, resV, leL, AV.nmIn, entsIn, lk, opt, bnd, req, ret, onQ, AV.isTup, and_true, true_and, and_self, Nat.reduceEqDiff, if_true, if_false, reduceCtorEq]
  simp [Ent.nmIn, AV.nmIn, AV.nmInL]
theorem call43 : Callable Try.prog 43 := ⟨_, Try.func43, by kernel_rfl, by kernel_rfl⟩
theorem caught_idle : ∀ p w, CallsDIn (fr none) 0 Try.prog 41 #[p] .returning w fun e u' w' => (∃ v, e = .returned v) ∧ u' = .returning ∧ w' = w := by
  refine idle_of_wpS Try.func41 rfl (fun p c₀ cs w hu => ?_) rfl
  have hr : recoverD (c₀ :: cs) = none := by simp [recoverD, hu]
  refine wpSIn_seq (wpSIn_recover_none hr ?_)
  show Code.wpSIn (fr none) 0 Try.prog _ _ _ _ _
  refine wpSIn_of_wpIn rfl ?_
  refine wpIn_block (wpIn_seq (wpIn_region_lit ?_))
  refine wpListIn_step (fun K' hK' => ?_)
  simp only [Region.wanted, if_true]
  refine ⟨fun f _ => fr_fn f, ?_⟩
  have h2 : (Oper.semAt (fr none).round (Act.put { tmps := #[p] ++ Array.replicate (Try.f41.ntmps - 1) undef, defers := [] } (some 5) Value.nilIface).eval { dst := some 7, op := Op.binOp BinOp.eql 20 (Operand.tmp 5) (Operand.const Value.nilIface) 20, type := 4, pos := "codec.go:61", after := #[], guard := none }).run Try.prog w = .ok (.value (.bool true)) w := by
    kernel_rfl
  rw [h2, Oper.uponIn_value]
  refine hK' _ _ (wpListIn_nil ?_)
  show Code.wpIn (fr none) 0 Try.prog _ _ _ w
  refine wpIn_cond_split (t := true) (by kernel_rfl) (fun _ => ?_) (fun h => absurd h (by simp))
  refine wpIn_region_lit ?_
  refine wpListIn_step (fun K2 hK2 => ?_)
  simp only [Region.wanted, if_true]
  refine ⟨fun f _ => fr_fn f, ?_⟩
  refine hK2 _ _ (wpListIn_nil ?_)
  refine ⟨.inl rfl, ?_, rfl, rfl⟩
  simp only [put_defers]
theorem call41 : Callable Try.prog 41 := ⟨_, Try.func41, by kernel_rfl, by kernel_rfl⟩
end Go.Proofs.Ytjnhpklhdikcdaa
