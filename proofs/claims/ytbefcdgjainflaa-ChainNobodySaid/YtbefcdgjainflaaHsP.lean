/- slices.Concat of any rows of bytes; Extract. -/
import Derived.Test.YtbefcdgjainflaaHsO
-- TT 3 4 5 39 36 66 93 94 96 100 103
-- TOUCH 51 1
set_option linter.unusedVariables false
set_option linter.unusedSectionVars false
set_option linter.unusedSimpArgs false
namespace Go.Proofs.Ytbefcdgjainflaa
open Sx
variable [Inhabited Tabs]
set_option maxRecDepth 100000
set_option maxHeartbeats 4000000
def catL (ls : List (List Int)) (k : Nat) : List Int := (ls.take k).flatten
def rowL (ls : List (List Int)) (k : Nat) : List Int := if k = 0 then List.replicate ls.flatten.length 0 else catL ls k
theorem catL_all (ls : List (List Int)) : catL ls ls.length = ls.flatten := by rw [catL, List.take_length]
theorem catL_succ {ls : List (List Int)} {k : Nat} (h : k < ls.length) : catL ls (k + 1) = catL ls k ++ ls[k] := by
  rw [catL, catL, List.take_succ_eq_append_getElem h, List.flatten_append]; simp
theorem catL_le (ls : List (List Int)) (k : Nat) : (catL ls k).length ≤ ls.flatten.length := by
  have : ls.flatten = catL ls k ++ (ls.drop k).flatten := by rw [catL, ← List.flatten_append, List.take_append_drop]
  rw [this, List.length_append]; omega
theorem rowL_take (ls : List (List Int)) (k : Nat) : List.take (catL ls k).length (rowL ls k) = catL ls k := by
  unfold rowL
  split
  · next h => subst h; simp [catL]
  · exact List.take_length
theorem rowL_le (ls : List (List Int)) (k : Nat) : (catL ls k).length ≤ (rowL ls k).length := by
  unfold rowL
  split
  · rw [List.length_replicate]; exact catL_le ls k
  · exact Nat.le_refl _
def catS (ls : List (List Int)) (k : Nat) : St := ⟨[(2, .nils), (6, .sl 1056 1 0 (catL ls k).length), (25, .lst 1 (ls.map (.lstI .u8))), (26, .int .i64 (ls.length : Nat)), (27, .int .i64 (k : Int))], [(1056, .vec 5 (.ints .u8 (rowL ls k)))], 2048, 36⟩
theorem concatL_own (ls : List (List Int)) (hl : ls.length ≤ 1000) (ht : ls.flatten.length ≤ 1000000) (h0 : 0 < ls.flatten.length) :
    FnR Try.prog G 48 [.lst 1 (ls.map (.lstI .u8))] [] (.sl 1056 1 0 ls.flatten.length) [(1056, .vec 5 (.ints .u8 ls.flatten))] := by
  have hg := grow_at 1056 ls.flatten.length (by omega) ht
  have hml : (ls.map (AV.lstI .u8)).length = ls.length := List.length_map ..
  refine FnR.of_walk (m := 36) (n0 := 0) tt_ok Try.func48 rfl rfl (by simp) (by simp [nmH]) ?_
  rw [show Try.f48.results.toList = [.tmp 2] from rfl]
  refine W.seqK fun K hK => W.regionK tt_ok ?_
  simp only [exOps_nil, exOps_cons, exOp_eq, nx_eq, cur_eq, stepQ, ev, ofV, parT, putT, erA, inB, opt, ret, onQ, ap, true_and, Nat.reduceLT, Nat.zero_add, if_false, reduceCtorEq]
  refine hK _ ?_
  clear hK K
  refine W.seqK fun K hK => W.regionK tt_ok ?_
  simp only [exOps_nil, exOps_cons, exOp_eq, nx_eq, cur_eq, stepQ, ev, ofV, putT, erA, inB, opt, ret, onQ, ap, true_and, Nat.reduceEqDiff, Nat.reduceLT, Nat.reduceAdd, if_false, reduceCtorEq]
  refine hK _ ?_
  clear hK K
  refine W.seqK fun Kz hKz => ?_
  refine W.seqK fun K hK => W.regionK tt_ok ?_
  simp only [exOps_nil, exOps_cons, exOp_eq, exCall_eq, nx_eq, cur_eq, evL, stepQ, ev, ofV, lk, putT, erA, inB, opt, bnd, req, ret, onQ, ap, bltQ, bltV, lenF, true_and, and_self, or_false, Nat.reduceEqDiff, Nat.reduceLT, Nat.reduceAdd, if_true, if_false, reduceCtorEq, List.getElem?_cons_zero, Option.bind_some, Option.map_some, tt_100, hml]
  refine hK _ ?_
  clear hK K
  refine W.blockK ?_
  refine W.loopK (fun k : Nat => k ≤ ls.length) (fun k => ⟨[(0, .lst 1 (ls.map (.lstI .u8))), (2, .nils), (3, .int .i64 ((catL ls k).length : Nat)), (9, .lst 1 (ls.map (.lstI .u8))), (10, .int .i64 (ls.length : Nat)), (11, .int .i64 (k : Int))], [], 1024, 36⟩) (fun k => ls.length - k) 0 (by simp) (by simp [catL, wk, leL, lk, nmT, nmE, nmH, AV.nmIn]) ?_
  · intro k hk K3 hK3
    by_cases hlt : k < ls.length
    · have c1 : (k : Int) < (ls.length : Nat) := by omega
      have he : (ls.map (AV.lstI .u8)).getD k default = .lstI .u8 ls[k] := by simp [List.getD_eq_getElem?_getD, hlt]
      have hs := catL_succ hlt
      have hle := catL_le ls (k + 1)
      have hw : IntKind.i64.wrap (((catL ls k).length : Int) + (ls[k].length : Int)) = ((catL ls (k + 1)).length : Nat) := by
        rw [IntKind.wrap_i64]; rw [hs, List.length_append] at hle ⊢; omega
      have c2 : ¬ (((catL ls (k + 1)).length : Nat) : Int) < 0 := by omega
      generalize ls[k] = x at *
      refine W.seqK fun K hK => W.regionK tt_ok ?_
      simp only [decide_true, exOps_nil, exOps_cons, exOp_eq, nx_eq, cur_eq, stepQ, ev, lk, putT, erA, inB, opt, bnd, req, ret, onQ, ap, binI, binG, binF, intF, true_and, and_self, Nat.reduceEqDiff, Nat.reduceLT, Nat.reduceAdd, if_true, if_false, reduceCtorEq, c1]
      refine hK _ ?_
      clear hK K
      refine W.seqK fun K hK => W.cond (b := true) (by simp only [ev, lk, Nat.reduceEqDiff, if_true, if_false, reduceCtorEq]) (fun _ => W.skip ?_) (fun h => absurd h (by simp))
      rw [thn_normal]
      refine hK _ ?_
      clear hK K
      refine W.seqK fun K hK => W.blockK ?_
      refine W.seqK fun K hK => W.regionK tt_ok ?_
      simp only [exOps_nil, exOps_cons, exOp_eq, nx_eq, cur_eq, stepQ, ev, lk, putT, erA, inB, opt, bnd, req, ret, onQ, ap, Kd.elem, ixA, asI, ldP, ldC, ldS, Kd.agg, comps, csize, takeI, takeC, dropC, and_true, true_and, and_self, Nat.reduceEqDiff, Nat.reduceLT, Nat.reduceLeDiff, Nat.reduceAdd, Nat.reduceSub, Nat.sub_self, Int.toNat_natCast, Nat.le_refl, if_true, if_false, Bool.false_eq_true, reduceCtorEq, Option.bind_some, Option.map_some, tt_39, tt_100, he, hml]
      refine ⟨by omega, ?_⟩
      refine hK _ ?_
      clear hK K
      refine W.seqK fun K hK => W.regionK tt_ok ?_
      simp only [exOps_nil, exOps_cons, exOp_eq, exCall_eq, nx_eq, cur_eq, evL, stepQ, ev, lk, putT, erA, inB, opt, bnd, req, ret, onQ, ap, binI, binG, binF, intF, bltQ, bltV, lenF, true_and, and_self, or_false, Nat.reduceEqDiff, Nat.reduceLT, Nat.reduceAdd, if_true, if_false, reduceCtorEq, List.getElem?_cons_zero, Option.bind_some, Option.map_some, tt_39, hw]
      refine hK _ ?_
      clear hK K
      refine W.seqK fun K hK => W.regionK tt_ok ?_
      simp only [decide_false, exOps_nil, exOps_cons, exOp_eq, nx_eq, cur_eq, stepQ, ev, ofV, lk, putT, erA, inB, opt, bnd, req, ret, onQ, ap, binI, binG, binF, intF, true_and, and_self, Nat.reduceEqDiff, Nat.reduceLT, Nat.reduceAdd, if_true, if_false, reduceCtorEq, c2]
      refine hK _ ?_
      clear hK K
      refine W.cond (b := false) (by simp only [ev, lk, Nat.reduceEqDiff, if_true, if_false, reduceCtorEq]) (fun h => absurd h (by simp)) (fun _ => W.skip ?_)
      simp only [thn_normal, inb_normal]
      refine hK _ ?_
      refine W.region tt_ok ?_
      simp only [exOps_nil, exOps_cons, exOp_eq, nx_eq, cur_eq, stepQ, ev, ofV, lk, putT, erA, inB, opt, bnd, req, ret, onQ, ap, binI, binG, binF, intF, thn_normal, true_and, and_self, Nat.reduceEqDiff, Nat.reduceLT, Nat.reduceAdd, if_true, if_false, reduceCtorEq, wrap_up k (by omega)]
      refine hK3 _ (k + 1) (by omega) (by omega) ?_
      simp [wk, leL, lk, nmT, nmE, nmH, AV.nmIn]
    have hk' : k = ls.length := by omega
    subst hk'
    have c1 : ¬ ((ls.length : Nat) : Int) < (ls.length : Nat) := by omega
    refine W.seqK fun K hK => W.regionK tt_ok ?_
    simp only [decide_false, exOps_nil, exOps_cons, exOp_eq, nx_eq, cur_eq, stepQ, ev, lk, putT, erA, inB, opt, bnd, req, ret, onQ, ap, binI, binG, binF, intF, true_and, and_self, Nat.reduceEqDiff, Nat.reduceLT, Nat.reduceAdd, if_true, if_false, reduceCtorEq, c1]
    refine hK _ ?_
    clear hK K
    refine W.seqK fun K hK => W.cond (b := false) (by simp only [ev, lk, Nat.reduceEqDiff, if_true, if_false, reduceCtorEq]) (fun h => absurd h (by simp)) (fun _ => W.exit ?_)
    simp only [thn_normal, thn_exit, inb_exit, if_true]
    clear hK K
    refine hKz _ ?_
    rw [catL_all]
    refine W.seqK fun K hK => W.regionK tt_ok ?_
    simp only [exOps_cons, exOp_eq, exCall_eq, nx_eq, cur_eq, evL, stepQ, ev, ofV, lk, putT, erA, inB, opt, ret, onQ, ap, true_and, Nat.reduceEqDiff, Nat.reduceLT, Nat.reduceAdd, if_true, if_false, reduceCtorEq, Option.bind_some, Option.map_some]
    refine CallK.with [] [(1056, .vec 5 (.ints .u8 (List.replicate ls.flatten.length 0)))] _ _ hg call53 (by simp only [AV.nmIn, bnd, req, ret, onQ, AV.isTup, isTupL, true_and, and_self, Bool.false_eq_true, List.append_nil, vw.vwL, vw, AV.free, Bool.or_self]; all_goals (and_intros <;> first | exact AV.subL_refl _ | omega | (simp [AV.sub, entsFree, Ent.free, Row.free]; done) | rfl | (simp [AV.subL_refl]; done))) (by simp [leL]) (by intro n hn; first | (left; revert hn; simp [Nm, lk]; done) | (right; revert hn; simp only [Nm, lk]; split <;> simp <;> omega) | (by_cases h1 : Nm [] n; exact .inl h1; right; revert hn h1; simp only [Nm, lk]; split <;> (try split) <;> (try split) <;> (try split) <;> (try simp) <;> (try omega))) (by simp [entsIn]) ?_
    simp only [callDel, exOps_nil, exOps_cons, exOp_eq, nx_eq, cur_eq, stepQ, ev, lk, putT, erA, inB, opt, ret, onQ, ap, up, er, true_and, Nat.reduceEqDiff, Nat.reduceLT, Nat.reduceAdd, if_true, if_false, reduceCtorEq, List.nil_append, List.map_cons, List.map_nil, List.reverse_cons, List.reverse_nil]
    refine hK _ ?_
    clear hK K
    refine W.seqK fun Ky hKy => ?_
    refine W.seqK fun K hK => W.regionK tt_ok ?_
    simp only [exOps_nil, exOps_cons, exOp_eq, exCall_eq, nx_eq, cur_eq, evL, stepQ, ev, ofV, lk, putT, erA, inB, opt, bnd, req, ret, onQ, ap, bltQ, bltV, lenF, true_and, and_self, or_false, Nat.reduceEqDiff, Nat.reduceLT, Nat.reduceAdd, if_true, if_false, reduceCtorEq, List.getElem?_cons_zero, Option.bind_some, Option.map_some, tt_100, hml]
    refine hK _ ?_
    clear hK K
    refine W.blockK ?_
    refine W.loopS (fun k : Nat => k ≤ ls.length) (catS ls) (fun k => ls.length - k) 0 (by simp) (by simp [catS, rowL, catL, wk, leL, lk, nmT, nmE, nmH, AV.nmIn, Ent.nmIn, Row.nmIn]) ?_
    intro k hk K3 hK3
    simp only [catS]
    by_cases hlt : k < ls.length
    · have c1 : (k : Int) < (ls.length : Nat) := by omega
      have he : (ls.map (AV.lstI .u8)).getD k default = .lstI .u8 ls[k] := by simp [List.getD_eq_getElem?_getD, hlt]
      have hs := catL_succ hlt
      have hle := catL_le ls (k + 1)
      have h3 := rowL_take ls k
      have h4 := rowL_le ls k
      have hr1 : rowL ls (k + 1) = catL ls (k + 1) := if_neg (by omega)
      rw [hs, List.length_append] at hle
      generalize hx : ls[k] = x at *
      refine W.seqK fun K hK => W.regionK tt_ok ?_
      simp only [decide_true, exOps_nil, exOps_cons, exOp_eq, nx_eq, cur_eq, stepQ, ev, lk, putT, erA, inB, opt, bnd, req, ret, onQ, ap, binI, binG, binF, intF, true_and, and_self, Nat.reduceEqDiff, Nat.reduceLT, Nat.reduceAdd, if_true, if_false, c1]
      refine hK _ ?_
      clear hK K
      refine W.seqK fun K hK => W.cond (b := true) (by simp only [ev, lk, Nat.reduceEqDiff, if_true, if_false]) (fun _ => W.skip ?_) (fun h => absurd h (by simp))
      rw [thn_normal]
      refine hK _ ?_
      clear hK K
      refine W.seqK fun K hK => W.blockK ?_
      refine W.seqK fun K hK => W.regionK tt_ok ?_
      simp only [exOps_nil, exOps_cons, exOp_eq, nx_eq, cur_eq, stepQ, ev, lk, putT, erA, inB, opt, bnd, req, ret, onQ, ap, Kd.elem, ixA, asI, ldP, ldC, ldS, Kd.agg, comps, csize, takeI, takeC, dropC, and_true, true_and, and_self, Nat.reduceEqDiff, Nat.reduceLT, Nat.reduceLeDiff, Nat.reduceAdd, Nat.reduceSub, Nat.sub_self, Int.toNat_natCast, Nat.le_refl, if_true, if_false, Bool.false_eq_true, reduceCtorEq, Option.bind_some, Option.map_some, tt_39, tt_100, he, hml]
      refine ⟨by omega, ?_⟩
      refine hK _ ?_
      clear hK K
      refine W.region tt_ok ?_
      simp only [exOps_nil, exOps_cons, exOp_eq, exCall_eq, nx_eq, cur_eq, evL, stepQ, ev, lk, putT, erA, inB, opt, bnd, req, ret, onQ, ap, up, er, bltQ, bltV, appQ, appV, srcQ, rowOf, Row.len, Row.sz, Row.take, Row.app, thn_normal, inb_normal, and_true, true_and, and_self, or_false, Nat.reduceEqDiff, Nat.reduceLT, Nat.reduceAdd, if_true, if_false, Option.bind_some, Option.map_some, tt_5, tt_39, h3]
      refine ⟨by omega, ?_⟩
      refine hK _ ?_
      clear hK K
      refine W.region tt_ok ?_
      simp only [exOps_nil, exOps_cons, exOp_eq, nx_eq, cur_eq, stepQ, ev, ofV, lk, putT, erA, inB, opt, bnd, req, ret, onQ, ap, binI, binG, binF, intF, thn_normal, true_and, and_self, Nat.reduceEqDiff, Nat.reduceLT, Nat.reduceAdd, if_true, if_false, wrap_up k (by omega)]
      refine hK3 _ (k + 1) 2144 1056 (by omega) (by omega) ⟨⟨by simp [Nm, lk], by simp [Nm, lk]⟩, by simp, by simp⟩ ?_
      simp [catS, hs, hr1, St.swap, tmMap, enMap, swp, AV.map, Ent.map, Row.map, wk, leL, lk, nmT, nmE, nmH, AV.nmIn, Ent.nmIn, Row.nmIn]
    have hk' : k = ls.length := by omega
    subst hk'
    have c1 : ¬ ((ls.length : Nat) : Int) < (ls.length : Nat) := by omega
    by_cases hl0 : ls.length = 0
    · exfalso
      rw [List.length_eq_zero_iff] at hl0
      rw [hl0] at h0; simp at h0
    have hr1 : rowL ls ls.length = ls.flatten := by rw [← catL_all]; exact if_neg hl0
    refine W.seqK fun K hK => W.regionK tt_ok ?_
    simp only [decide_false, exOps_nil, exOps_cons, exOp_eq, nx_eq, cur_eq, stepQ, ev, lk, putT, erA, inB, opt, bnd, req, ret, onQ, ap, binI, binG, binF, intF, true_and, and_self, Nat.reduceEqDiff, Nat.reduceLT, Nat.reduceAdd, if_true, if_false, c1]
    refine hK _ ?_
    clear hK K
    refine W.seqK fun K hK => W.cond (b := false) (by simp only [ev, lk, Nat.reduceEqDiff, if_true, if_false]) (fun h => absurd h (by simp)) (fun _ => W.exit ?_)
    simp only [thn_normal, thn_exit, inb_exit, if_true]
    clear hK K
    refine hKy _ ?_
    rw [catL_all, hr1]
    refine W.seqK fun K hK => W.regionK tt_ok ?_
    simp only [exOps_nil, exOps_cons, exOp_eq, nx_eq, cur_eq, stepQ, ev, lk, putT, erA, inB, opt, ret, onQ, ap, true_and, Nat.reduceEqDiff, Nat.reduceLT, Nat.reduceAdd, if_true, if_false]
    refine hK _ ?_
    clear hK K
    refine W.ret ?_
    simp only [fin_ret, finB, resQ, resV, leL, AV.nmIn, entsIn, lk, opt, bnd, req, ret, onQ, AV.isTup, and_true, true_and, and_self, Nat.reduceEqDiff, if_true, if_false]
    simp [Nm, lk, Ent.nmIn, Row.nmIn]
theorem concatL_at (X : Nat) (ls : List (List Int)) (hl : ls.length ≤ 1000) (ht : ls.flatten.length ≤ 1000000) (h0 : 0 < ls.flatten.length) :
    FnR Try.prog G 48 [.lst 1 (ls.map (.lstI .u8))] [] (.sl X 1 0 ls.flatten.length) [(X, .vec 5 (.ints .u8 ls.flatten))] := by
  have h := (concatL_own ls hl ht h0).rename 1056 X
  simpa [AV.map, AV.mapL, swp, enMap, Ent.map, Row.map] using h
theorem call47 : Callable Try.prog 47 := ⟨_, Try.func47, by kernel_rfl, by kernel_rfl⟩
theorem extract_fn (key b : List Int) (hk : key.length ≤ 90000) (hb : b.length ≤ 80000) : FnR Try.prog G 45 [.lstI .u8 key, .lstI .u8 b] [] (.agg [.ints .u8 32 (hmac key b)]) [] := by
  have c1 := macSum_fn key b hk hb
  have hl := hmac_len key b
  generalize hmac key b = D at *
  refine FnR.of_walk (m := 8) (n0 := 0) tt_ok Try.func45 rfl rfl (by simp) (by simp [nmH]) ?_
  rw [show Try.f45.results.toList = [.cell 4 36] from rfl]
  refine W.seqK fun K hK => W.regionK tt_ok ?_
  simp only [exOps_nil, exOps_cons, exOp_eq, nx_eq, cur_eq, stepQ, parT, putT, erA, inB, opt, ret, onQ, ap, up, er, true_and, Nat.reduceEqDiff, Nat.reduceLT, Nat.zero_add, if_false, reduceCtorEq, tt_36]
  refine hK _ ?_
  clear hK K
  refine W.seqK fun K hK => W.regionK tt_ok ?_
  simp only [exOps_cons, exOp_eq, exCall_eq, nx_eq, cur_eq, evL, stepQ, ev, lk, putT, erA, inB, opt, ret, onQ, ap, true_and, Nat.reduceEqDiff, Nat.reduceLT, Nat.reduceAdd, if_true, if_false, reduceCtorEq, Option.bind_some, Option.map_some]
  refine CallK.pure _ _ c1 call47 (by simp only [AV.nmIn, bnd, req, ret, onQ, AV.isTup, isTupL, true_and, and_self, Bool.false_eq_true, List.append_nil, vw.vwL, vw, AV.free, AV.freeL, Bool.or_self]; all_goals (and_intros <;> first | exact AV.subL_refl _ | omega | (simp [AV.sub]; done) | rfl | (simp [AV.subL_refl]; done) | (simp; exact AV.subL_refl _))) ?_
  simp only [exOps_nil, exOps_cons, exOp_eq, nx_eq, cur_eq, stepQ, ev, lk, putT, erA, inB, opt, bnd, req, ret, onQ, ap, up, er, AV.isAgg, Kd.agg, comps, szL, csize, takeI, takeC, dropC, stP, stE, stC, stS, true_and, and_self, Nat.reduceEqDiff, Nat.reduceLT, Nat.reduceLeDiff, Nat.reduceAdd, Nat.reduceSub, Nat.sub_self, Nat.le_refl, Nat.add_zero, Nat.zero_add, if_true, if_false, reduceCtorEq, Option.bind_some, Option.map_some, List.append_nil, List.nil_append, tt_36]
  repeat (refine ⟨by omega, ?_⟩)
  refine hK _ ?_
  clear hK K
  refine W.ret ?_
  simp only [fin_ret, finB, resQ, resV, leL, AV.nmIn, AV.nmInL, entsIn, lk, opt, bnd, req, ret, onQ, AV.isTup, ldP, ldE, ldC, ldS, Kd.agg, comps, csize, takeI, takeC, dropC, and_self, Nat.reduceEqDiff, Nat.reduceLT, Nat.reduceLeDiff, Nat.reduceSub, Nat.sub_self, Nat.le_refl, Nat.add_zero, if_true, if_false, reduceCtorEq, Option.bind_some, Option.map_some, tt_36]
end Go.Proofs.Ytbefcdgjainflaa
