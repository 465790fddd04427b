/- The code's keys. -/
import Derived.Test.YtbefcdgjainflaaHc2
-- TT 3 4 5 9 39 36 66 93 94 96 100 30 82 89 103
set_option linter.unusedVariables false
set_option linter.unusedSectionVars false
set_option linter.unusedSimpArgs false
namespace Go.Proofs.Ytbefcdgjainflaa
open Sx
variable [Inhabited Tabs]
set_option maxRecDepth 100000
set_option maxHeartbeats 4000000
theorem chunk_own (xs : List Int) : FnR Try.prog G 46 [.lstI .u8 xs, .int .i64 32] [] (.fn (.func 49) [.ptr 0 0 0 1, .ptr 16 0 0 1]) [(0, .obj 39 (.lstI .u8 xs)), (16, .obj 3 (.int .i64 32))] := by
  refine FnR.of_walk (m := 9) (n0 := 0) tt_ok Try.func46 rfl rfl (by simp) (by simp [nmH]) ?_
  rw [show Try.f46.results.toList = [.tmp 4] from rfl]
  refine W.seqK fun K hK => W.regionK tt_ok ?_
  simp only [exOps_nil, exOps_cons, exOp_eq, nx_eq, cur_eq, stepQ, ev, ofV, lk, parT, putT, erA, inB, opt, req, ret, onQ, ap, up, er, AV.isTup, true_and, and_self, Nat.reduceEqDiff, Nat.reduceLT, Nat.reduceAdd, Nat.zero_add, if_true, if_false, reduceCtorEq]
  refine hK _ ?_
  clear hK K
  refine W.seqK fun Ky hKy => ?_
  refine W.seqK fun K hK => W.regionK tt_ok ?_
  simp only [decide_false, exOps_nil, exOps_cons, exOp_eq, nx_eq, cur_eq, stepQ, ev, ofV, lk, putT, erA, inB, opt, bnd, req, ret, onQ, ap, binI, binG, binF, intF, ldP, ldE, ldC, ldS, Kd.agg, comps, csize, takeI, takeC, dropC, true_and, and_self, Nat.reduceEqDiff, Nat.reduceLT, Nat.reduceLeDiff, Nat.reduceAdd, Nat.reduceSub, Int.reduceLT, Nat.sub_self, Nat.le_refl, if_true, if_false, Bool.false_eq_true, reduceCtorEq, Option.bind_some, Option.map_some, tt_3]
  refine hK _ ?_
  clear hK K
  refine W.cond (b := false) (by simp only [ev, lk, Nat.reduceEqDiff, if_true, if_false, reduceCtorEq]) (fun h => absurd h (by simp)) (fun _ => W.skip ?_)
  simp only [thn_normal]
  refine hKy _ ?_
  refine W.seqK fun K hK => W.regionK tt_ok ?_
  simp only [Bool.or_false, exOps_nil, exOps_cons, exOp_eq, nx_eq, cur_eq, evL, stepQ, ev, lk, putT, erA, inB, opt, bnd, req, ret, onQ, ap, AV.isTup, isTupL, mkfQ, noNilf, true_and, and_self, Nat.reduceEqDiff, Nat.reduceLT, Nat.reduceAdd, if_true, if_false, reduceCtorEq, Option.bind_some, Option.map_some]
  refine hK _ ?_
  clear hK K
  refine W.ret ?_
  simp only [fin_ret, finB, resQ, resV, leL, AV.nmIn, AV.nmInL, entsIn, lk, opt, bnd, req, ret, onQ, AV.isTup, and_true, true_and, and_self, Nat.reduceEqDiff, if_true, if_false, reduceCtorEq]
  simp [Nm, lk, Ent.nmIn, AV.nmIn]
theorem chunk_fn (xs : List Int) : FnR Try.prog G 46 [.lstI .u8 xs, .int .i64 32] [] (.fn (.func 49) [.pel (.lstI .u8 xs), .pel (.int .i64 32)]) [] :=
  FnR.pels (L := [(0, .lstI .u8 xs), (16, .int .i64 32)]) (chunk_own xs) (by
    intro p hp
    simp only [List.mem_cons, List.not_mem_nil, or_false] at hp
    rcases hp with rfl | rfl
    · exact ⟨trivial, 39, rfl⟩
    · exact ⟨trivial, 3, rfl⟩)
theorem call46 : Callable Try.prog 46 := ⟨_, Try.func46, by kernel_rfl, by kernel_rfl⟩
theorem call49 : Callable Try.prog 49 := ⟨_, Try.func49, by kernel_rfl, by kernel_rfl⟩
def partV (E : List Int) (k : Nat) : AV := .agg [.ints .u8 32 (part E k)]
def keysV (E : List Int) (n : Nat) : AV := .lst 32 ((List.range n).map (partV E))
def kE (X Y : Nat) (E : List Int) (k : Nat) : Ents := if k = 0 then [(X, .obj 82 .nils)] else [(X, .obj 82 (.agg [.sl Y 32 0 k])), (Y, .vec 36 (.avs 32 ((List.range k).map (partV E))))]
theorem nmInL_agg (N : Nat → Prop) (E : List Int) (k : Nat) : AV.nmInL N ((List.range k).map (partV E)) := by
  generalize List.range k = l
  induction l with
  | nil => trivial
  | cons a l ih => exact ⟨⟨trivial, trivial⟩, ih⟩
theorem kmap (f : Nat → Nat) (E : List Int) (k : Nat) : AV.mapL f (List.map (partV E) (List.range k) ++ [.agg [.ints .u8 32 (part E k)]]) = List.map (partV E) (List.range k) ++ [partV E k] := by
  rw [AV.mapL_eq, List.map_append, List.map_map]
  congr 1
theorem knm (N : Nat → Prop) (E : List Int) (k : Nat) : AV.nmInL N (List.map (partV E) (List.range k) ++ [partV E k]) := by
  have := nmInL_agg N E (k + 1)
  rwa [List.range_succ, List.map_append] at this
theorem keys_fn (key b : List Int) (n : Nat) (hk : key.length = 32) (hb : b.length ≤ 80000) (h1 : 1 ≤ n) (h3 : n ≤ 3) :
    FnR Try.prog G 43 [.agg [.ints .u8 32 key], .lstI .u8 b, .int .i64 (n : Int)] [] (.tup [keysV (expn (hmac key b) [] (32 * n)) n, .int .i64 0]) [] := by
  have c1 := extract_fn key b (by omega) hb
  have hD := hmac_len key b
  have c2 := expand_fn (hmac key b) [] (32 * n) hD (by simp) (by omega)
  have hE := expn_len (hmac key b) [] (32 * n)
  generalize expn (hmac key b) [] (32 * n) = E at *
  generalize hmac key b = D at *
  have c3 := chunk_fn E
  have hkt : List.take 32 key = key := List.take_of_length_le (by omega)
  have hw : IntKind.i64.wrap ((n : Int) * 32) = ((32 * n : Nat) : Int) := by rw [IntKind.wrap_i64]; omega
  have c1 : FnR Try.prog G 45 [.lstI .u8 (List.take 32 key), .lstI .u8 b] [] (.agg [.ints .u8 32 D]) [] := by rw [hkt]; exact c1
  rw [← hw] at c2
  have hit := chunk_it E n hE h1 h3
  have n1 : ¬ (n : Int) < 1 := by omega
  have n2 : ¬ 3 < (n : Int) := by omega
  refine FnR.of_walkT (m := 38) tt_ok Try.func43 rfl rfl (by simp) ?_
  rw [show Try.f43.results.toList = [.tmp 6, .tmp 7] from rfl]
  refine W.seqK fun K hK => W.regionK tt_ok ?_
  simp only [exOps_nil, exOps_cons, exOp_eq, nx_eq, cur_eq, stepQ, ev, ofV, lk, parT, putT, erA, inB, opt, req, ret, onQ, ap, up, er, AV.isTup, true_and, and_self, Nat.reduceEqDiff, Nat.reduceLT, Nat.reduceAdd, Nat.zero_add, if_true, if_false, reduceCtorEq]
  refine hK _ ?_
  clear hK K
  refine W.seqK fun Ky hKy => ?_
  refine W.seqK fun K hK => W.regionK tt_ok ?_
  simp only [↓gFF, ↓nFF, decide_false, exOps_nil, exOps_cons, exOp_eq, nx_eq, cur_eq, stepQ, ev, ofV, lk, putT, erA, inB, opt, bnd, req, ret, onQ, ap, binI, binG, binF, intF, pickF, and_true, true_and, and_self, Nat.reduceEqDiff, Nat.reduceLT, Nat.reduceAdd, if_true, if_false, reduceCtorEq, List.getElem?_cons_zero, List.getElem?_cons_succ, Option.bind_some, n1, n2]
  refine hK _ ?_
  clear hK K
  refine W.cond (b := false) (by simp only [ev, lk, Nat.reduceEqDiff, if_true, if_false, reduceCtorEq]) (fun h => absurd h (by simp)) (fun _ => W.skip ?_)
  simp only [thn_normal]
  refine hKy _ ?_
  refine W.seqK fun K hK => W.regionK tt_ok ?_
  simp only [exOps_cons, exOp_eq, exCall_eq, nx_eq, cur_eq, evL, stepQ, ev, lk, putT, erA, inB, opt, bnd, req, ret, onQ, ap, comps, szL, csize, slF, bd, bds, true_and, and_self, Nat.reduceEqDiff, Nat.reduceLT, Nat.reduceLeDiff, Nat.reduceAdd, Nat.reduceSub, Nat.reduceMul, Nat.add_zero, if_true, if_false, reduceCtorEq, Option.bind_some, Option.map_some, tt_5, tt_36]
  refine CallK.pure _ _ c1 call45 (by simp only [Bool.or_false, AV.nmIn, lk, opt, bnd, req, ret, onQ, AV.isTup, isTupL, Ent.row, and_true, true_and, and_self, Nat.zero_add, if_true, forall_const, List.append_nil, vw.vwL, vw, viewR, AV.free, AV.freeL, Ent.row, Bool.or_self]; all_goals (and_intros <;> first | exact AV.subL_refl _ | omega | (simp [AV.sub]; done) | rfl | (simp [AV.subL_refl]; done) | (simp; exact AV.subL_refl _))) ?_
  simp only [exOps_cons, exOp_eq, exCall_eq, nx_eq, cur_eq, evL, stepQ, ev, ofV, lk, putT, erA, inB, opt, bnd, req, ret, onQ, ap, binI, binG, binF, intF, true_and, and_self, Nat.reduceEqDiff, Nat.reduceLT, Nat.reduceAdd, if_true, if_false, reduceCtorEq, Option.bind_some, Option.map_some]
  refine CallK.pure _ _ c2 call44 (by simp only [AV.nmIn, bnd, req, ret, onQ, AV.isTup, isTupL, true_and, and_self, Bool.false_eq_true, List.append_nil, vw.vwL, vw, AV.free, AV.freeL, Bool.or_self]; all_goals (and_intros <;> first | exact AV.subL_refl _ | omega | (simp [AV.sub]; done) | rfl | (simp [AV.subL_refl]; done) | (simp; exact AV.subL_refl _))) ?_
  simp only [exOps_nil, exOps_cons, exOp_eq, nx_eq, cur_eq, stepQ, ev, lk, putT, erA, inB, opt, ret, onQ, ap, true_and, Nat.reduceEqDiff, Nat.reduceLT, Nat.reduceAdd, if_true, if_false, reduceCtorEq, List.getElem?_cons_zero, List.getElem?_cons_succ]
  repeat (refine ⟨by omega, ?_⟩)
  refine hK _ ?_
  clear hK K
  refine W.seqK fun K hK => W.regionK tt_ok ?_
  simp only [exOps_nil, exOps_cons, exOp_eq, nx_eq, cur_eq, stepQ, putT, erA, inB, opt, ret, onQ, ap, up, er, true_and, Nat.reduceEqDiff, Nat.reduceLT, Nat.reduceAdd, if_false, reduceCtorEq, tt_82]
  refine hK _ ?_
  clear hK K
  refine W.seqK fun Kz hKz => ?_
  refine W.seqK fun K hK => W.regionK tt_ok ?_
  simp only [exOps_cons, exOp_eq, exCall_eq, nx_eq, cur_eq, evL, stepQ, ev, ofV, lk, putT, erA, inB, opt, ret, onQ, ap, true_and, Nat.reduceEqDiff, Nat.reduceLT, Nat.reduceAdd, if_true, if_false, reduceCtorEq, Option.bind_some, Option.map_some]
  refine CallK.pure _ _ c3 call46 (by simp only [AV.nmIn, bnd, req, ret, onQ, AV.isTup, isTupL, true_and, and_self, Bool.false_eq_true, List.append_nil, vw.vwL, vw, AV.free, AV.freeL, Bool.or_self]; all_goals (and_intros <;> first | exact AV.subL_refl _ | omega | (simp [AV.sub]; done) | rfl | (simp [AV.subL_refl]; done) | (simp; exact AV.subL_refl _))) ?_
  simp only [exOps_nil, nx_eq, putT, erA, ap, Nat.reduceEqDiff, Nat.reduceAdd, if_false, reduceCtorEq]
  refine hK _ ?_
  clear hK K
  refine W.blockK ?_
  refine W.rangeFunc (p := 29) (q := 11) (f := 49) [(9, .int .i64 0), (10, .ptr 320 0 0 1)] (kE 320 400 E) 1024 rfl (by simp) (by simp [AV.nmInL, AV.nmIn]) hit call49 AsgK.of (by simp) (by simp) ?_ ?_ ?_ ?_
  · simp [wk, leL, lk, nmT, nmE, nmH, kE, AV.nmIn, Ent.nmIn]
  · intro k hk
    by_cases h0 : k = 0
    · subst h0
      refine ⟨fun i x hi => ?_, by simp [kE, entsIn, Ent.nmIn, AV.nmIn], by simp [kE, nmH]⟩
      simp only [lk] at hi
      repeat' split at hi
      all_goals first | (cases hi; done) | (cases hi; simp [kE, AV.nmIn, Nm, lk])
    · refine ⟨fun i x hi => ?_, ?_, by simp [kE, h0, nmH]⟩
      · simp only [lk] at hi
        repeat' split at hi
        all_goals first | (cases hi; done) | (cases hi; simp [kE, h0, AV.nmIn, Nm, lk])
      · simp only [kE, h0, if_false, entsIn, Ent.nmIn, AV.nmIn, AV.nmInL, Row.nmIn, and_true]
        exact ⟨by simp [Nm, lk], nmInL_agg _ _ _⟩
  · intro k x l hx K hK
    have hkn : k < n := by have := (List.getElem?_eq_some_iff.1 hx).1; simpa using this
    have hx' : x = .lstI .u8 (part E k) := by simp [hkn] at hx; exact hx.symm
    subst hx'
    have hp := part_len hE hkn
    have hpt : List.take 32 (part E k) = part E k := List.take_of_length_le (by omega)
    refine W.blockK ?_
    by_cases h0 : k = 0
    · subst h0
      simp only [kE, if_true]
      refine exD_sound (A := [⟨0, true, [], false⟩, ⟨0, false, [], false⟩, ⟨0, false, [1], false⟩, ⟨0, false, [1, 2], false⟩, ⟨1, false, [1, 2, 3], false⟩, ⟨2, false, [0, 1, 2, 3, 4], false⟩, ⟨2, false, [0, 1, 2, 3, 4, 5], false⟩]) mix tt_ok (by kernel_rfl) ?_
      simp only [decide_true, Bool.or_false, List.contains_nil, exOp_eq, exCall_eq, exD_nil, exD_cons, nxD_eq, cur_eq, flI, flE, ownB, ownL, evL, evP, stepQ, ev, lk, putT, erA, inB, opt, bnd, req, ret, onQ, ap, up, er, AV.isTup, AV.isAgg, ldP, ldE, ldC, ldS, Kd.agg, comps, szL, csize, takeI, takeC, dropC, stP, stE, stC, stS, bltQ, bltV, stapQ, appQ, appV, srcQ, Row.len, Row.sz, Row.take, Row.drop, Ent.row, Row.lst, bldA, bslQ, zeroCs, cellsRow, chunks, ones, thn_normal, inb_normal, and_true, true_and, and_self, and_false, or_false, Nat.reduceEqDiff, Nat.reduceLT, Nat.reduceLeDiff, Nat.reduceAdd, Nat.reduceSub, Nat.reduceMul, Nat.reduceDiv, Nat.sub_self, Nat.le_refl, Nat.add_zero, Nat.zero_add, if_true, if_false, cond_true, Bool.false_eq_true, reduceCtorEq, ne_eq, not_false_eq_true, Option.bind_some, Option.map_some, List.append_nil, List.nil_append, tt_36, tt_82, hp, hpt, List.replicate_one, List.flatten_cons, List.flatten_nil, List.length_cons, List.length_nil, List.drop_zero, List.take_succ_cons, List.take_zero]
      refine hK _ 1104 400 ⟨by simp, by simp⟩ ?_
      simp [wk, St.swap, enMap, tmMap, swp, leL, lk, nmT, nmE, nmH, kE, AV.nmIn, AV.nmInL, Ent.nmIn, Row.nmIn, AV.map, AV.mapL, Ent.map, Row.map, partV]
    · simp only [kE, if_neg h0]
      refine exD_sound (A := [⟨0, true, [], false⟩, ⟨0, false, [], false⟩, ⟨0, false, [1], false⟩, ⟨0, false, [1, 2], false⟩, ⟨1, false, [1, 2, 3], false⟩, ⟨2, false, [0, 1, 2, 3, 4], false⟩, ⟨2, false, [0, 1, 2, 3, 4, 5], false⟩]) mix tt_ok (by kernel_rfl) ?_
      simp only [decide_true, Bool.or_false, List.contains_nil, exOp_eq, exCall_eq, exD_nil, exD_cons, nxD_eq, cur_eq, flI, flE, ownB, ownL, evL, evP, stepQ, ev, lk, putT, erA, inB, opt, bnd, req, ret, onQ, ap, up, er, AV.isTup, AV.isAgg, ldP, ldE, ldC, ldS, Kd.agg, comps, szL, csize, takeI, takeC, dropC, stP, stE, stC, stS, bltQ, bltV, appR, stapQ, appQ, appV, srcQ, Row.len, Row.sz, Row.take, Row.drop, Row.app, Ent.row, bldA, bslQ, zeroCs, cellsRow, chunks, ones, thn_normal, inb_normal, and_true, true_and, and_self, and_false, or_false, Nat.reduceEqDiff, Nat.reduceLT, Nat.reduceLeDiff, Nat.reduceAdd, Nat.reduceSub, Nat.reduceMul, Nat.reduceDiv, Nat.sub_self, Nat.le_refl, Nat.add_zero, Nat.zero_add, if_true, if_false, cond_true, Bool.false_eq_true, reduceCtorEq, Option.bind_some, Option.map_some, List.append_nil, List.nil_append, tt_36, tt_82, hp, hpt, List.replicate_one, List.flatten_cons, List.flatten_nil, List.length_cons, List.length_nil, List.drop_zero, List.take_succ_cons, List.take_zero, List.length_map, List.length_range]
      refine ⟨⟨by omega, by omega⟩, hK _ 1104 400 ⟨by simp, by simp⟩ ?_⟩
      have ht : List.take k (List.map (partV E) (List.range k)) = List.map (partV E) (List.range k) := List.take_of_length_le (by simp)
      rw [ht]
      simp [wk, St.swap, enMap, tmMap, swp, leL, lk, nmT, nmE, nmH, kE, AV.nmIn, AV.nmInL, Ent.nmIn, Row.nmIn, AV.map, AV.mapL, Ent.map, Row.map, List.range_succ, h0]
      exact ⟨kmap _ E k, knm _ E k⟩
  · have hn0 : ¬ n = 0 := by omega
    simp only [inb_normal, thn_normal, List.length_map, List.length_range]
    refine hKz _ ?_
    simp only [kE, if_neg hn0]
    refine W.seqK fun K hK => W.regionK tt_ok ?_
    simp only [exOps_nil, exOps_cons, exOp_eq, nx_eq, cur_eq, stepQ, ev, lk, putT, erA, inB, opt, bnd, req, ret, onQ, ap, ldP, ldE, ldC, ldS, Kd.agg, comps, csize, takeI, takeC, dropC, true_and, and_self, Nat.reduceEqDiff, Nat.reduceLT, Nat.reduceLeDiff, Nat.reduceAdd, Nat.reduceSub, Nat.sub_self, Nat.le_refl, if_true, if_false, Bool.false_eq_true, reduceCtorEq, Option.bind_some, Option.map_some, tt_82]
    refine hK _ ?_
    clear hK K
    have hn : n = 1 ∨ n = 2 ∨ n = 3 := by omega
    rcases hn with rfl | rfl | rfl
    · refine W.ret ?_
      simp only [finT_ret, finTB, resQ, lk, opt, bnd, req, ret, onQ, AV.isTup, true_and, and_self, Nat.reduceEqDiff, if_true, if_false, ne_eq]
      simp [vw, vw.vwL, viewL, viewE, viewCs, viewC, viewEL, lk, Ent.row, opt, bnd, req, ret, AV.nmIn, show List.range 1 = [0] from rfl, List.map_cons, List.map_nil, partV, keysV]
    · refine W.ret ?_
      simp only [finT_ret, finTB, resQ, lk, opt, bnd, req, ret, onQ, AV.isTup, true_and, and_self, Nat.reduceEqDiff, if_true, if_false, ne_eq]
      simp [vw, vw.vwL, viewL, viewE, viewCs, viewC, viewEL, lk, Ent.row, opt, bnd, req, ret, AV.nmIn, show List.range 2 = [0, 1] from rfl, List.map_cons, List.map_nil, partV, keysV]
    · refine W.ret ?_
      simp only [finT_ret, finTB, resQ, lk, opt, bnd, req, ret, onQ, AV.isTup, true_and, and_self, Nat.reduceEqDiff, if_true, if_false, ne_eq]
      simp [vw, vw.vwL, viewL, viewE, viewCs, viewC, viewEL, lk, Ent.row, opt, bnd, req, ret, AV.nmIn, show List.range 3 = [0, 1, 2] from rfl, List.map_cons, List.map_nil, partV, keysV]
end Go.Proofs.Ytbefcdgjainflaa
