/- Write. (Printed by genE.py.) -/
import Derived.Test.YtbefcdgjainflaaHsC
import Derived.Test.YtbefcdgjainflaaHsD
-- TT 3 5 39 66 93 94 96 100
set_option linter.unusedVariables false
set_option linter.unusedSectionVars false
set_option linter.unusedSimpArgs false
namespace Go.Proofs.Ytbefcdgjainflaa
open Sx
variable [Inhabited Tabs]
set_option maxRecDepth 100000
set_option maxHeartbeats 2000000
theorem call48 : Callable Try.prog 48 := ⟨_, Try.func48, by kernel_rfl, by kernel_rfl⟩
theorem call55 : Callable Try.prog 55 := ⟨_, Try.func55, by kernel_rfl, by kernel_rfl⟩
def suN (s x : List Int) : Nat → List Int
  | 0 => s
  | i + 1 => (suN s x i).set i (IntKind.u32.wrap ((suN s x i).getD i 0 - x.getD i 0))
theorem suN_len (s x : List Int) (h : s.length = 8) : ∀ k, (suN s x k).length = 8
  | 0 => h
  | k + 1 => by simp [suN, suN_len s x h k]
/-- The state behind some blocks. -/
def blN (s all : List Int) : Nat → List Int
  | 0 => s
  | k + 1 => mixN (blN s all k) ((all.drop (64 * k)).take 64)
theorem blN_len (s all : List Int) (h : s.length = 8) : ∀ k, (blN s all k).length = 8
  | 0 => h
  | k + 1 => mixN_len _ _ (blN_len s all h k)
/-- The state, as it is kept, behind bytes more. -/
def wrS (st all : List Int) : List Int := suN (blN (adN st startL 8) all (all.length / 64)) startL 8
theorem wrS_len (st all : List Int) (h : st.length = 8) : (wrS st all).length = 8 := suN_len _ _ (blN_len _ _ (adN_len _ _ h 8) _) 8
theorem write_nil (st : List Int) (n : Int) (hst : st.length = 8) :
    FnR Try.prog G 51 [.agg [.ints .u32 8 st, .lstI .u8 [], .int .u64 n], .lstI .u8 []] [] (.agg [.ints .u32 8 (wrS st []), .nils, .int .u64 (IntKind.u64.wrap (n + IntKind.u64.wrap 0))]) [] := by
  have hc := concat_nil
  have h8 := startL_len
  unfold wrS
  
  refine FnR.of_walk (m := 64) (n0 := 0) tt_ok Try.func51 rfl rfl (by simp) (by simp [nmH]) ?_
  rw [show Try.f51.results.toList = [.cell 4 96] from rfl]
  refine W.seqK fun K hK => W.regionK tt_ok ?_
  simp only [exOps_nil, exOps_cons, exOp_eq, nx_eq, cur_eq, stepQ, ev, lk, parT, putT, erA, inB, opt, req, ret, onQ, ap, up, er, AV.isTup, true_and, and_self, Nat.reduceEqDiff, Nat.reduceLT, Nat.reduceAdd, Nat.zero_add, if_true, if_false, reduceCtorEq, tt_96]
  refine hK _ ?_
  clear hK K
  refine W.seqK fun K hK => W.regionK tt_ok ?_
  simp only [exOps_nil, exOps_cons, exOp_eq, exCall_eq, nx_eq, cur_eq, evL, stepQ, ev, lk, putT, erA, inB, opt, bnd, req, ret, onQ, ap, up, er, AV.isTup, AV.isAgg, binI, binG, binF, intF, ldP, ldE, ldC, ldS, Kd.agg, comps, szL, csize, takeI, takeC, dropC, stP, stE, stC, stS, fldF, bltQ, bltV, lenF, cvQ, and_true, true_and, and_self, and_false, or_false, Nat.reduceEqDiff, Nat.reduceLT, Nat.reduceLeDiff, Nat.reduceAdd, Nat.reduceSub, Nat.sub_self, Nat.le_refl, Nat.add_zero, Nat.zero_add, if_true, if_false, Bool.false_eq_true, reduceCtorEq, ne_eq, not_false_eq_true, List.getElem?_cons_zero, List.getElem?_cons_succ, Option.bind_some, Option.map_some, List.append_nil, List.nil_append, List.cons_append, tt_3, tt_39, tt_94, tt_96, List.length_nil, Int.natCast_zero]
  refine hK _ ?_
  clear hK K
  generalize hnn : IntKind.u64.wrap (n + IntKind.u64.wrap 0) = nn at *
  refine W.seqK fun K hK => W.regionK tt_ok ?_
  simp only [exOps_cons, exOp_eq, exCall_eq, nx_eq, cur_eq, evL, evP, stepQ, ev, lk, putT, erA, inB, opt, bnd, req, ret, onQ, ap, up, er, AV.isTup, AV.isAgg, ldP, ldE, ldC, ldS, Kd.agg, comps, szL, csize, takeI, takeC, dropC, stC, stS, fldF, Row.len, Row.sz, bldA, bslQ, zeroCs, cellsRow, chunks, ones, and_true, true_and, and_self, and_false, Nat.reduceEqDiff, Nat.reduceLT, Nat.reduceLeDiff, Nat.reduceAdd, Nat.reduceSub, Nat.reduceMul, Nat.sub_self, Nat.le_refl, Nat.add_zero, Nat.zero_add, if_true, if_false, cond_true, cond_false, Bool.false_eq_true, reduceCtorEq, ne_eq, not_false_eq_true, List.getElem?_cons_zero, List.getElem?_cons_succ, Option.bind_some, Option.map_some, List.append_nil, List.nil_append, List.cons_append, tt_39, tt_96, tt_100, show (List.replicate 2 [AV.nils]).flatten = [.nils, .nils] from rfl, beq_self_eq_true, Bool.and_self, List.length_cons, List.length_nil]
  refine CallK.pure _ _ hc call48 (by simp only [Bool.or_false, AV.nmIn, lk, opt, bnd, req, ret, onQ, AV.isTup, isTupL, Ent.row, and_true, true_and, and_self, Nat.reduceEqDiff, Nat.zero_add, if_true, if_false, reduceCtorEq, forall_const, List.append_nil, vw.vwL, vw, viewL, viewEL, viewE, viewC, AV.free, Ent.row, Bool.or_self]; all_goals (and_intros <;> first | exact AV.subL_refl _ | omega | (simp [AV.sub]; done) | rfl | (simp [AV.subL_refl]; done) | (simp; exact AV.subL_refl _))) ?_
  simp only [exOps_nil, exOps_cons, exOp_eq, nx_eq, cur_eq, stepQ, ev, lk, putT, erA, inB, opt, ret, onQ, ap, true_and, Nat.reduceEqDiff, Nat.reduceLT, Nat.reduceAdd, if_true, if_false, reduceCtorEq]
  refine hK _ ?_
  clear hK K
  refine W.seqK fun Kz hKz => ?_
  refine W.seqK fun K hK => W.regionK tt_ok ?_
  simp only [exOps_nil, exOps_cons, exOp_eq, nx_eq, cur_eq, stepQ, ev, ofV, putT, erA, inB, opt, bnd, req, ret, onQ, ap, ldP, ldC, ldS, Kd.agg, comps, csize, takeI, takeC, dropC, true_and, and_self, Nat.reduceEqDiff, Nat.reduceLT, Nat.reduceLeDiff, Nat.reduceAdd, Nat.reduceSub, Nat.sub_self, Nat.le_refl, Nat.add_zero, if_true, if_false, reduceCtorEq, Option.bind_some, Option.map_some, tt_93, G]
  refine hK _ ?_
  clear hK K
  refine W.blockK ?_
  refine W.loopK (fun k : Nat => k ≤ 8) (fun k => ⟨[(2, .ptr 0 0 0 1), (4, .ptr 16 0 0 1), (5, .nils), (22, .agg [.ints .u32 8 startL]), (23, .int .i64 (k : Int))], [(0, .obj 96 (.agg [.ints .u32 8 (adN st startL k), .lstI .u8 [], .int .u64 nn])), (16, .obj 96 (.agg [.ints .u32 8 (List.replicate 8 0), .nils, .int .u64 0]))], 1024, 64⟩) (fun k => 8 - k) 0 (by simp) (by simp [adN, wk, leL, lk, nmT, nmE, nmH, AV.nmIn, AV.nmInL, Ent.nmIn]) ?_
  intro k hk K3 hK3
  have hal := adN_len st startL hst k
  by_cases hlt : k < 8
  · have c1 : (k : Int) < 8 := by omega
    refine W.seqK fun K hK => W.regionK tt_ok ?_
    simp only [decide_true, exOps_nil, exOps_cons, exOp_eq, nx_eq, cur_eq, stepQ, ev, ofV, lk, putT, erA, inB, opt, bnd, req, ret, onQ, ap, binI, binG, binF, intF, true_and, and_self, Nat.reduceEqDiff, Nat.reduceLT, Nat.reduceAdd, if_true, if_false, c1]
    refine hK _ ?_
    clear hK K
    refine W.seqK fun K hK => W.cond (b := true) (by simp only [ev, lk, Nat.reduceEqDiff, if_true, if_false]) (fun _ => W.skip ?_) (fun h => absurd h (by simp))
    rw [thn_normal]
    refine hK _ ?_
    clear hK K
    refine W.seqK fun K hK => W.blockK ?_
    refine W.seqK fun K hK => W.regionK tt_ok ?_
    simp only [exOps_nil, exOps_cons, exOp_eq, nx_eq, cur_eq, stepQ, ev, lk, putT, erA, inB, opt, bnd, req, ret, onQ, ap, Kd.isInt, ixV, asI, ldC, ldS, Kd.agg, csize, takeI, takeC, dropC, and_true, true_and, Nat.reduceEqDiff, Nat.reduceLT, Nat.reduceLeDiff, Nat.reduceAdd, Nat.reduceSub, Int.toNat_natCast, Nat.add_zero, Nat.zero_add, if_true, if_false, Bool.false_eq_true, reduceCtorEq, Option.bind_some, Option.map_some, tt_66, tt_93, Int.toNat_natCast]
    repeat (refine ⟨by omega, ?_⟩)
    refine hK _ ?_
    clear hK K
    refine W.region tt_ok ?_
    simp only [exOps_nil, exOps_cons, exOp_eq, nx_eq, cur_eq, stepQ, ev, lk, putT, erA, inB, opt, bnd, req, ret, onQ, ap, up, er, AV.isTup, AV.isAgg, binI, binG, binF, intF, Kd.elem, Kd.isInt, ixA, asI, ldP, ldE, ldC, ldS, Kd.agg, comps, csize, takeI, takeC, dropC, stP, stE, stC, stS, fldF, thn_normal, inb_normal, and_true, true_and, and_self, Nat.reduceEqDiff, Nat.reduceLT, Nat.reduceLeDiff, Nat.reduceAdd, Nat.reduceSub, Int.toNat_natCast, Nat.add_zero, Nat.zero_add, if_true, if_false, Bool.false_eq_true, reduceCtorEq, ne_eq, not_false_eq_true, List.getElem?_cons_zero, Option.bind_some, Option.map_some, tt_66, tt_93, tt_96, Int.toNat_natCast]
    repeat (refine ⟨by omega, ?_⟩)
    refine hK _ ?_
    clear hK K
    refine W.region tt_ok ?_
    simp only [exOps_nil, exOps_cons, exOp_eq, nx_eq, cur_eq, stepQ, ev, ofV, lk, putT, erA, inB, opt, bnd, req, ret, onQ, ap, binI, binG, binF, intF, thn_normal, true_and, and_self, Nat.reduceEqDiff, Nat.reduceLT, Nat.reduceAdd, if_true, if_false, wrap_up k (by omega)]
    refine hK3 _ (k + 1) (by omega) (by omega) ?_
    simp [adN, wk, leL, lk, nmT, nmE, nmH, AV.nmIn, AV.nmInL, Ent.nmIn]
  have hk' : k = 8 := by omega
  subst hk'
  have c1 : ¬ (((8 : Nat) : Int) < 8) := by omega
  refine W.seqK fun K hK => W.regionK tt_ok ?_
  simp only [decide_false, exOps_nil, exOps_cons, exOp_eq, nx_eq, cur_eq, stepQ, ev, ofV, lk, putT, erA, inB, opt, bnd, req, ret, onQ, ap, binI, binG, binF, intF, true_and, and_self, Nat.reduceEqDiff, Nat.reduceLT, Nat.reduceAdd, if_true, if_false, c1]
  refine hK _ ?_
  clear hK K
  refine W.seqK fun K hK => W.cond (b := false) (by simp only [ev, lk, Nat.reduceEqDiff, if_true, if_false]) (fun h => absurd h (by simp)) (fun _ => W.exit ?_)
  simp only [thn_normal, thn_exit, inb_exit, if_true]
  refine hKz _ ?_
  have hs1 := adN_len st startL hst 8
  generalize adN st startL 8 = s1 at *
  refine W.seqK fun Ky hKy => W.blockK ?_
  refine W.loopK (fun k : Nat => k ≤ 0) (fun k => ⟨[(2, .ptr 0 0 0 1), (4, .ptr 16 0 0 1), (5, .nils)], [(0, .obj 96 (.agg [.ints .u32 8 (blN s1 [] k), .lstI .u8 [], .int .u64 nn])), (16, .obj 96 (.agg [.ints .u32 8 (List.replicate 8 0), .nils, .int .u64 0]))], 2048, 64⟩) (fun k => 0 - k) 0 (by simp) (by simp [blN, wk, leL, lk, nmT, nmE, nmH, AV.nmIn, AV.nmInL, Ent.nmIn]) ?_
  intro k hk K3 hK3
  have hbl := blN_len s1 [] hs1 k
  refine W.seqK fun K hK => ?_
  have hk' : k = 0 := by omega
  subst hk'
  have c1 : ¬ (64 : Int) ≤ 0 := by decide
  refine W.seqK fun K hK => W.regionK tt_ok ?_
  simp only [decide_false, exOps_nil, exOps_cons, exOp_eq, exCall_eq, nx_eq, cur_eq, evL, stepQ, ev, ofV, lk, putT, erA, inB, opt, bnd, req, ret, onQ, ap, binI, binG, binF, intF, bltQ, bltV, lenF, true_and, and_self, or_false, Nat.reduceEqDiff, Nat.reduceLT, Nat.reduceAdd, if_true, if_false, List.getElem?_cons_zero, Option.bind_some, Option.map_some, tt_39, c1]
  refine hK _ ?_
  clear hK K
  refine W.cond (b := false) (by simp only [ev, lk, Nat.reduceEqDiff, if_true, if_false]) (fun h => absurd h (by simp)) (fun _ => W.exit ?_)
  simp only [thn_normal, thn_exit, inb_exit, if_true]
  refine hKy _ ?_
  simp only [List.length_nil, Nat.zero_div]
  generalize blN s1 [] 0 = s2 at *
  refine W.seqK fun Kx hKx => ?_
  refine W.seqK fun K hK => W.regionK tt_ok ?_
  simp only [exOps_nil, exOps_cons, exOp_eq, nx_eq, cur_eq, stepQ, ev, ofV, putT, erA, inB, opt, bnd, req, ret, onQ, ap, ldP, ldC, ldS, Kd.agg, comps, csize, takeI, takeC, dropC, true_and, and_self, Nat.reduceEqDiff, Nat.reduceLT, Nat.reduceLeDiff, Nat.reduceAdd, Nat.reduceSub, Nat.sub_self, Nat.le_refl, Nat.add_zero, if_true, if_false, reduceCtorEq, Option.bind_some, Option.map_some, tt_93, G]
  refine hK _ ?_
  clear hK K
  refine W.blockK ?_
  refine W.loopK (fun k : Nat => k ≤ 8) (fun k => ⟨[(2, .ptr 0 0 0 1), (4, .ptr 16 0 0 1), (5, .nils), (47, .agg [.ints .u32 8 startL]), (48, .int .i64 (k : Int))], [(0, .obj 96 (.agg [.ints .u32 8 (suN s2 startL k), .lstI .u8 [], .int .u64 nn])), (16, .obj 96 (.agg [.ints .u32 8 (List.replicate 8 0), .nils, .int .u64 0]))], 4096, 64⟩) (fun k => 8 - k) 0 (by simp) (by simp [suN, wk, leL, lk, nmT, nmE, nmH, AV.nmIn, AV.nmInL, Ent.nmIn]) ?_
  intro k hk K3 hK3
  have hal := suN_len s2 startL hbl k
  by_cases hlt : k < 8
  · have c1 : (k : Int) < 8 := by omega
    refine W.seqK fun K hK => W.regionK tt_ok ?_
    simp only [decide_true, exOps_nil, exOps_cons, exOp_eq, nx_eq, cur_eq, stepQ, ev, ofV, lk, putT, erA, inB, opt, bnd, req, ret, onQ, ap, binI, binG, binF, intF, true_and, and_self, Nat.reduceEqDiff, Nat.reduceLT, Nat.reduceAdd, if_true, if_false, c1]
    refine hK _ ?_
    clear hK K
    refine W.seqK fun K hK => W.cond (b := true) (by simp only [ev, lk, Nat.reduceEqDiff, if_true, if_false]) (fun _ => W.skip ?_) (fun h => absurd h (by simp))
    rw [thn_normal]
    refine hK _ ?_
    clear hK K
    refine W.seqK fun K hK => W.blockK ?_
    refine W.seqK fun K hK => W.regionK tt_ok ?_
    simp only [exOps_nil, exOps_cons, exOp_eq, nx_eq, cur_eq, stepQ, ev, lk, putT, erA, inB, opt, bnd, req, ret, onQ, ap, Kd.isInt, ixV, asI, ldC, ldS, Kd.agg, csize, takeI, takeC, dropC, and_true, true_and, Nat.reduceEqDiff, Nat.reduceLT, Nat.reduceLeDiff, Nat.reduceAdd, Nat.reduceSub, Int.toNat_natCast, Nat.add_zero, Nat.zero_add, if_true, if_false, Bool.false_eq_true, reduceCtorEq, Option.bind_some, Option.map_some, tt_66, tt_93, Int.toNat_natCast]
    repeat (refine ⟨by omega, ?_⟩)
    refine hK _ ?_
    clear hK K
    refine W.region tt_ok ?_
    simp only [exOps_nil, exOps_cons, exOp_eq, nx_eq, cur_eq, stepQ, ev, lk, putT, erA, inB, opt, bnd, req, ret, onQ, ap, up, er, AV.isTup, AV.isAgg, binI, binG, binF, intF, Kd.elem, Kd.isInt, ixA, asI, ldP, ldE, ldC, ldS, Kd.agg, comps, csize, takeI, takeC, dropC, stP, stE, stC, stS, fldF, thn_normal, inb_normal, and_true, true_and, and_self, Nat.reduceEqDiff, Nat.reduceLT, Nat.reduceLeDiff, Nat.reduceAdd, Nat.reduceSub, Int.toNat_natCast, Nat.add_zero, Nat.zero_add, if_true, if_false, Bool.false_eq_true, reduceCtorEq, ne_eq, not_false_eq_true, List.getElem?_cons_zero, Option.bind_some, Option.map_some, tt_66, tt_93, tt_96, Int.toNat_natCast]
    repeat (refine ⟨by omega, ?_⟩)
    refine hK _ ?_
    clear hK K
    refine W.region tt_ok ?_
    simp only [exOps_nil, exOps_cons, exOp_eq, nx_eq, cur_eq, stepQ, ev, ofV, lk, putT, erA, inB, opt, bnd, req, ret, onQ, ap, binI, binG, binF, intF, thn_normal, true_and, and_self, Nat.reduceEqDiff, Nat.reduceLT, Nat.reduceAdd, if_true, if_false, wrap_up k (by omega)]
    refine hK3 _ (k + 1) (by omega) (by omega) ?_
    simp [suN, wk, leL, lk, nmT, nmE, nmH, AV.nmIn, AV.nmInL, Ent.nmIn]
  have hk' : k = 8 := by omega
  subst hk'
  have c1 : ¬ (((8 : Nat) : Int) < 8) := by omega
  refine W.seqK fun K hK => W.regionK tt_ok ?_
  simp only [decide_false, exOps_nil, exOps_cons, exOp_eq, nx_eq, cur_eq, stepQ, ev, ofV, lk, putT, erA, inB, opt, bnd, req, ret, onQ, ap, binI, binG, binF, intF, true_and, and_self, Nat.reduceEqDiff, Nat.reduceLT, Nat.reduceAdd, if_true, if_false, c1]
  refine hK _ ?_
  clear hK K
  refine W.seqK fun K hK => W.cond (b := false) (by simp only [ev, lk, Nat.reduceEqDiff, if_true, if_false]) (fun h => absurd h (by simp)) (fun _ => W.exit ?_)
  simp only [thn_normal, thn_exit, inb_exit, if_true]
  refine hKx _ ?_
  refine W.seqK fun K hK => W.regionK tt_ok ?_
  simp only [exOps_nil, exOps_cons, exOp_eq, nx_eq, cur_eq, stepQ, ev, lk, putT, erA, inB, opt, bnd, req, ret, onQ, ap, up, er, AV.isTup, AV.isAgg, Kd.agg, comps, szL, csize, takeI, takeC, dropC, stP, stE, stC, stS, fldF, and_true, true_and, and_self, and_false, Nat.reduceEqDiff, Nat.reduceLT, Nat.reduceLeDiff, Nat.reduceAdd, Nat.reduceSub, Nat.sub_self, Nat.le_refl, Nat.add_zero, Nat.zero_add, if_true, if_false, Bool.false_eq_true, reduceCtorEq, ne_eq, not_false_eq_true, List.getElem?_cons_zero, List.getElem?_cons_succ, Option.bind_some, Option.map_some, List.nil_append, List.cons_append, tt_39, tt_96]
  refine hK _ ?_
  clear hK K
  refine W.seqK fun K hK => W.regionK tt_ok ?_
  simp only [exOps_nil, exOps_cons, exOp_eq, nx_eq, cur_eq, stepQ, ev, lk, putT, erA, inB, opt, bnd, req, ret, onQ, ap, up, er, AV.isAgg, ldP, ldE, ldC, ldS, Kd.agg, comps, szL, csize, takeI, takeC, dropC, stP, stE, stC, stS, true_and, and_self, Nat.reduceEqDiff, Nat.reduceLT, Nat.reduceLeDiff, Nat.reduceAdd, Nat.reduceSub, Nat.sub_self, Nat.le_refl, Nat.add_zero, Nat.zero_add, if_true, if_false, reduceCtorEq, Option.bind_some, Option.map_some, List.append_nil, List.nil_append, tt_96]
  refine hK _ ?_
  clear hK K
  refine W.ret ?_
  simp only [fin_ret, finB, resQ, resV, leL, AV.nmIn, AV.nmInL, entsIn, lk, opt, bnd, req, ret, onQ, AV.isTup, ldP, ldE, ldC, ldS, Kd.agg, comps, csize, takeI, takeC, dropC, and_self, Nat.reduceEqDiff, Nat.reduceLT, Nat.reduceLeDiff, Nat.reduceSub, Nat.sub_self, Nat.le_refl, Nat.add_zero, if_true, if_false, reduceCtorEq, Option.bind_some, Option.map_some, tt_96]
theorem write_own (st r b : List Int) (n : Int) (hst : st.length = 8) (hr : r.length ≤ 64) (hb : b.length ≤ 90000) (h0 : 0 < r.length + b.length) :
    FnR Try.prog G 51 [.agg [.ints .u32 8 st, .lstI .u8 r, .int .u64 n], .lstI .u8 b] [] (.agg [.ints .u32 8 (wrS st (r ++ b)), .sl 224 1 (64 * ((r ++ b).length / 64)) ((r ++ b).length - 64 * ((r ++ b).length / 64)), .int .u64 (IntKind.u64.wrap (n + IntKind.u64.wrap (b.length : Int)))]) [(224, .vec 5 (.ints .u8 (r ++ b)))] := by
  have hc := concat_at 224 r b (by omega) (by omega) h0
  have hAl : (r ++ b).length = r.length + b.length := List.length_append
  rw [← hAl] at hc
  have h8 := startL_len
  unfold wrS
  generalize hA : r ++ b = A at *
  refine FnR.of_walk (m := 64) (n0 := 0) tt_ok Try.func51 rfl rfl (by simp) (by simp [nmH]) ?_
  rw [show Try.f51.results.toList = [.cell 4 96] from rfl]
  refine W.seqK fun K hK => W.regionK tt_ok ?_
  simp only [exOps_nil, exOps_cons, exOp_eq, nx_eq, cur_eq, stepQ, ev, lk, parT, putT, erA, inB, opt, req, ret, onQ, ap, up, er, AV.isTup, true_and, and_self, Nat.reduceEqDiff, Nat.reduceLT, Nat.reduceAdd, Nat.zero_add, if_true, if_false, reduceCtorEq, tt_96]
  refine hK _ ?_
  clear hK K
  refine W.seqK fun K hK => W.regionK tt_ok ?_
  simp only [exOps_nil, exOps_cons, exOp_eq, exCall_eq, nx_eq, cur_eq, evL, stepQ, ev, lk, putT, erA, inB, opt, bnd, req, ret, onQ, ap, up, er, AV.isTup, AV.isAgg, binI, binG, binF, intF, ldP, ldE, ldC, ldS, Kd.agg, comps, szL, csize, takeI, takeC, dropC, stP, stE, stC, stS, fldF, bltQ, bltV, lenF, cvQ, and_true, true_and, and_self, and_false, or_false, Nat.reduceEqDiff, Nat.reduceLT, Nat.reduceLeDiff, Nat.reduceAdd, Nat.reduceSub, Nat.sub_self, Nat.le_refl, Nat.add_zero, Nat.zero_add, if_true, if_false, Bool.false_eq_true, reduceCtorEq, ne_eq, not_false_eq_true, List.getElem?_cons_zero, List.getElem?_cons_succ, Option.bind_some, Option.map_some, List.append_nil, List.nil_append, List.cons_append, tt_3, tt_39, tt_94, tt_96]
  refine hK _ ?_
  clear hK K
  generalize hnn : IntKind.u64.wrap (n + IntKind.u64.wrap (b.length : Int)) = nn at *
  refine W.seqK fun K hK => W.regionK tt_ok ?_
  simp only [exOps_cons, exOp_eq, exCall_eq, nx_eq, cur_eq, evL, evP, stepQ, ev, lk, putT, erA, inB, opt, bnd, req, ret, onQ, ap, up, er, AV.isTup, AV.isAgg, ldP, ldE, ldC, ldS, Kd.agg, comps, szL, csize, takeI, takeC, dropC, stC, stS, fldF, Row.len, Row.sz, bldA, bslQ, zeroCs, cellsRow, chunks, ones, and_true, true_and, and_self, and_false, Nat.reduceEqDiff, Nat.reduceLT, Nat.reduceLeDiff, Nat.reduceAdd, Nat.reduceSub, Nat.reduceMul, Nat.sub_self, Nat.le_refl, Nat.add_zero, Nat.zero_add, if_true, if_false, cond_true, cond_false, Bool.false_eq_true, reduceCtorEq, ne_eq, not_false_eq_true, List.getElem?_cons_zero, List.getElem?_cons_succ, Option.bind_some, Option.map_some, List.append_nil, List.nil_append, List.cons_append, tt_39, tt_96, tt_100, show (List.replicate 2 [AV.nils]).flatten = [.nils, .nils] from rfl, beq_self_eq_true, Bool.and_self, List.length_cons, List.length_nil]
  refine CallK.with [] [(224, .vec 5 (.ints .u8 A))] _ _ hc call48 (by simp only [Bool.or_false, AV.nmIn, lk, opt, bnd, req, ret, onQ, AV.isTup, isTupL, Ent.row, and_true, true_and, and_self, Nat.reduceEqDiff, Nat.zero_add, if_true, if_false, reduceCtorEq, forall_const, List.append_nil, vw.vwL, vw, viewL, viewEL, viewE, viewC, AV.free, Ent.row, Bool.or_self]; all_goals (and_intros <;> first | exact AV.subL_refl _ | omega | (simp [AV.sub, entsFree, Ent.free, Row.free]; done) | rfl | (simp [AV.subL_refl]; done))) (by simp [leL]) (by intro n hn; first | (left; revert hn; simp [Nm, lk]; done) | (right; revert hn; simp only [Nm, lk]; split <;> simp <;> omega) | (by_cases h1 : Nm [] n; exact .inl h1; right; revert hn h1; simp only [Nm, lk]; split <;> (try split) <;> (try split) <;> (try split) <;> (try simp) <;> (try omega))) (by simp [entsIn]) ?_
  simp only [callDel, exOps_nil, exOps_cons, exOp_eq, nx_eq, cur_eq, stepQ, ev, lk, putT, erA, inB, opt, ret, onQ, ap, up, er, true_and, Nat.reduceEqDiff, Nat.reduceLT, Nat.reduceAdd, if_true, if_false, reduceCtorEq, List.nil_append, List.map_cons, List.map_nil, List.reverse_cons, List.reverse_nil]
  refine hK _ ?_
  clear hK K
  refine W.seqK fun Kz hKz => ?_
  refine W.seqK fun K hK => W.regionK tt_ok ?_
  simp only [exOps_nil, exOps_cons, exOp_eq, nx_eq, cur_eq, stepQ, ev, ofV, putT, erA, inB, opt, bnd, req, ret, onQ, ap, ldP, ldC, ldS, Kd.agg, comps, csize, takeI, takeC, dropC, true_and, and_self, Nat.reduceEqDiff, Nat.reduceLT, Nat.reduceLeDiff, Nat.reduceAdd, Nat.reduceSub, Nat.sub_self, Nat.le_refl, Nat.add_zero, if_true, if_false, reduceCtorEq, Option.bind_some, Option.map_some, tt_93, G]
  refine hK _ ?_
  clear hK K
  refine W.blockK ?_
  refine W.loopK (fun k : Nat => k ≤ 8) (fun k => ⟨[(2, .ptr 0 0 0 1), (4, .ptr 16 0 0 1), (5, .sl 224 1 0 A.length), (22, .agg [.ints .u32 8 startL]), (23, .int .i64 (k : Int))], [(224, .vec 5 (.ints .u8 A)), (0, .obj 96 (.agg [.ints .u32 8 (adN st startL k), .lstI .u8 r, .int .u64 nn])), (16, .obj 96 (.agg [.ints .u32 8 (List.replicate 8 0), .nils, .int .u64 0]))], 1024, 64⟩) (fun k => 8 - k) 0 (by simp) (by simp [adN, wk, leL, lk, nmT, nmE, nmH, AV.nmIn, AV.nmInL, Ent.nmIn, Row.nmIn]) ?_
  intro k hk K3 hK3
  have hal := adN_len st startL hst k
  by_cases hlt : k < 8
  · have c1 : (k : Int) < 8 := by omega
    refine W.seqK fun K hK => W.regionK tt_ok ?_
    simp only [decide_true, exOps_nil, exOps_cons, exOp_eq, nx_eq, cur_eq, stepQ, ev, ofV, lk, putT, erA, inB, opt, bnd, req, ret, onQ, ap, binI, binG, binF, intF, true_and, and_self, Nat.reduceEqDiff, Nat.reduceLT, Nat.reduceAdd, if_true, if_false, c1]
    refine hK _ ?_
    clear hK K
    refine W.seqK fun K hK => W.cond (b := true) (by simp only [ev, lk, Nat.reduceEqDiff, if_true, if_false]) (fun _ => W.skip ?_) (fun h => absurd h (by simp))
    rw [thn_normal]
    refine hK _ ?_
    clear hK K
    refine W.seqK fun K hK => W.blockK ?_
    refine W.seqK fun K hK => W.regionK tt_ok ?_
    simp only [exOps_nil, exOps_cons, exOp_eq, nx_eq, cur_eq, stepQ, ev, lk, putT, erA, inB, opt, bnd, req, ret, onQ, ap, Kd.isInt, ixV, asI, ldC, ldS, Kd.agg, csize, takeI, takeC, dropC, and_true, true_and, Nat.reduceEqDiff, Nat.reduceLT, Nat.reduceLeDiff, Nat.reduceAdd, Nat.reduceSub, Int.toNat_natCast, Nat.add_zero, Nat.zero_add, if_true, if_false, Bool.false_eq_true, reduceCtorEq, Option.bind_some, Option.map_some, tt_66, tt_93, Int.toNat_natCast]
    repeat (refine ⟨by omega, ?_⟩)
    refine hK _ ?_
    clear hK K
    refine W.region tt_ok ?_
    simp only [exOps_nil, exOps_cons, exOp_eq, nx_eq, cur_eq, stepQ, ev, lk, putT, erA, inB, opt, bnd, req, ret, onQ, ap, up, er, AV.isTup, AV.isAgg, binI, binG, binF, intF, Kd.elem, Kd.isInt, ixA, asI, ldP, ldE, ldC, ldS, Kd.agg, comps, csize, takeI, takeC, dropC, stP, stE, stC, stS, fldF, thn_normal, inb_normal, and_true, true_and, and_self, Nat.reduceEqDiff, Nat.reduceLT, Nat.reduceLeDiff, Nat.reduceAdd, Nat.reduceSub, Int.toNat_natCast, Nat.add_zero, Nat.zero_add, if_true, if_false, Bool.false_eq_true, reduceCtorEq, ne_eq, not_false_eq_true, List.getElem?_cons_zero, Option.bind_some, Option.map_some, tt_66, tt_93, tt_96, Int.toNat_natCast]
    repeat (refine ⟨by omega, ?_⟩)
    refine hK _ ?_
    clear hK K
    refine W.region tt_ok ?_
    simp only [exOps_nil, exOps_cons, exOp_eq, nx_eq, cur_eq, stepQ, ev, ofV, lk, putT, erA, inB, opt, bnd, req, ret, onQ, ap, binI, binG, binF, intF, thn_normal, true_and, and_self, Nat.reduceEqDiff, Nat.reduceLT, Nat.reduceAdd, if_true, if_false, wrap_up k (by omega)]
    refine hK3 _ (k + 1) (by omega) (by omega) ?_
    simp [adN, wk, leL, lk, nmT, nmE, nmH, AV.nmIn, AV.nmInL, Ent.nmIn, Row.nmIn]
  have hk' : k = 8 := by omega
  subst hk'
  have c1 : ¬ (((8 : Nat) : Int) < 8) := by omega
  refine W.seqK fun K hK => W.regionK tt_ok ?_
  simp only [decide_false, exOps_nil, exOps_cons, exOp_eq, nx_eq, cur_eq, stepQ, ev, ofV, lk, putT, erA, inB, opt, bnd, req, ret, onQ, ap, binI, binG, binF, intF, true_and, and_self, Nat.reduceEqDiff, Nat.reduceLT, Nat.reduceAdd, if_true, if_false, c1]
  refine hK _ ?_
  clear hK K
  refine W.seqK fun K hK => W.cond (b := false) (by simp only [ev, lk, Nat.reduceEqDiff, if_true, if_false]) (fun h => absurd h (by simp)) (fun _ => W.exit ?_)
  simp only [thn_normal, thn_exit, inb_exit, if_true]
  refine hKz _ ?_
  have hs1 := adN_len st startL hst 8
  generalize adN st startL 8 = s1 at *
  refine W.seqK fun Ky hKy => W.blockK ?_
  refine W.loopK (fun k : Nat => k ≤ A.length / 64) (fun k => ⟨[(2, .ptr 0 0 0 1), (4, .ptr 16 0 0 1), (5, .sl 224 1 (64 * k) (A.length - 64 * k))], [(224, .vec 5 (.ints .u8 A)), (0, .obj 96 (.agg [.ints .u32 8 (blN s1 A k), .lstI .u8 r, .int .u64 nn])), (16, .obj 96 (.agg [.ints .u32 8 (List.replicate 8 0), .nils, .int .u64 0]))], 2048, 64⟩) (fun k => A.length / 64 - k) 0 (by simp) (by simp [blN, wk, leL, lk, nmT, nmE, nmH, AV.nmIn, AV.nmInL, Ent.nmIn, Row.nmIn]) ?_
  intro k hk K3 hK3
  have hbl := blN_len s1 A hs1 k
  refine W.seqK fun K hK => ?_
  by_cases hlt : k < A.length / 64
  · have c1 : (64 : Int) ≤ ((A.length - 64 * k : Nat) : Int) := by omega
    have hm := mixed_fn (blN s1 A k) ((A.drop (64 * k)).take 64) hbl (by rw [List.length_take, List.length_drop]; omega)
    refine W.seqK fun K hK => W.regionK tt_ok ?_
    simp only [decide_true, exOps_nil, exOps_cons, exOp_eq, exCall_eq, nx_eq, cur_eq, evL, stepQ, ev, ofV, lk, putT, erA, inB, opt, bnd, req, ret, onQ, ap, binI, binG, binF, intF, bltQ, bltV, lenF, true_and, and_self, or_false, Nat.reduceEqDiff, Nat.reduceLT, Nat.reduceAdd, if_true, if_false, List.getElem?_cons_zero, Option.bind_some, Option.map_some, tt_39, c1]
    refine hK _ ?_
    clear hK K
    refine W.cond (b := true) (by simp only [ev, lk, Nat.reduceEqDiff, if_true, if_false]) (fun _ => W.skip ?_) (fun h => absurd h (by simp))
    rw [thn_normal]
    refine hK _ ?_
    refine W.blockK ?_
    refine W.seqK fun K hK => W.drawK [⟨0, false, [], false⟩, ⟨0, false, [0], false⟩, ⟨0, false, [], false⟩, ⟨0, false, [2], false⟩, ⟨0, false, [0, 1, 2, 3], false⟩, ⟨0, false, [0, 1, 2, 3, 4], false⟩, ⟨2, false, [0, 1, 2, 3, 4, 5], false⟩] mix tt_ok (by kernel_rfl) ?_
    simp only [exOp_eq, exCall_eq, exD_cons, nxD_eq, cur_eq, flI, ownB, evL, stepQ, ev, ofV, lk, putT, erA, inB, opt, bnd, req, ret, onQ, ap, ldP, ldE, ldC, ldS, Kd.agg, comps, csize, takeI, takeC, dropC, fldF, slF, bd, bds, and_true, true_and, and_self, Nat.reduceEqDiff, Nat.reduceLT, Nat.reduceLeDiff, Nat.reduceAdd, Nat.reduceSub, Int.reduceLE, Int.reduceToNat, Nat.sub_self, Nat.le_refl, Nat.add_zero, if_true, if_false, reduceCtorEq, ne_eq, not_false_eq_true, List.getElem?_cons_zero, Option.bind_some, Option.map_some, tt_5, tt_39, tt_93, tt_96]
    repeat (refine ⟨by omega, ?_⟩)
    refine CallK.pure _ _ hm call55 (by simp only [Bool.or_true, Bool.or_false, AV.nmIn, lk, opt, bnd, req, ret, onQ, AV.isTup, isTupL, Ent.row, and_true, true_and, and_self, Nat.reduceEqDiff, if_true, if_false, reduceCtorEq, forall_const, List.append_nil, vw.vwL, vw, viewR, AV.free, AV.freeL, Ent.row, Bool.or_self]; all_goals (and_intros <;> first | exact AV.subL_refl _ | omega | (simp [AV.sub]; done) | rfl | (simp [AV.subL_refl]; done) | (simp; exact AV.subL_refl _))) ?_
    simp only [exOp_eq, exD_nil, exD_cons, nxD_eq, cur_eq, flI, ownB, stepQ, ev, lk, putT, erA, inB, opt, bnd, req, ret, onQ, ap, up, er, AV.isAgg, Kd.agg, comps, szL, csize, takeI, takeC, dropC, stP, stE, stC, stS, fldF, true_and, and_self, Nat.reduceEqDiff, Nat.reduceLT, Nat.reduceLeDiff, Nat.reduceAdd, Nat.reduceSub, Nat.sub_self, Nat.le_refl, Nat.add_zero, Nat.zero_add, if_true, if_false, reduceCtorEq, ne_eq, not_false_eq_true, List.getElem?_cons_zero, Option.bind_some, Option.map_some, List.nil_append, List.cons_append, tt_93, tt_96]
    repeat (refine ⟨by omega, ?_⟩)
    refine hK _ ?_
    clear hK K
    refine W.region tt_ok ?_
    simp only [exOps_nil, exOps_cons, exOp_eq, nx_eq, cur_eq, stepQ, ev, ofV, lk, putT, erA, inB, opt, bnd, req, ret, onQ, ap, slF, bd, bds, thn_normal, inb_normal, and_true, true_and, Nat.reduceEqDiff, Nat.reduceLT, Nat.reduceAdd, Int.reduceLE, Int.reduceToNat, if_true, if_false, tt_5, tt_39]
    repeat (refine ⟨by omega, ?_⟩)
    refine hK3 _ (k + 1) (by omega) (by omega) ?_
    have e1 : 64 * k + 64 = 64 * (k + 1) := by omega
    have e2 : A.length - 64 * k - 64 = A.length - 64 * (k + 1) := by omega
    rw [e1, e2]
    simp [blN, wk, leL, lk, nmT, nmE, nmH, AV.nmIn, AV.nmInL, Ent.nmIn, Row.nmIn]
  have hk' : k = A.length / 64 := by omega
  subst hk'
  have c1 : ¬ (64 : Int) ≤ ((A.length - 64 * (A.length / 64) : Nat) : Int) := by omega
  refine W.seqK fun K hK => W.regionK tt_ok ?_
  simp only [decide_false, exOps_nil, exOps_cons, exOp_eq, exCall_eq, nx_eq, cur_eq, evL, stepQ, ev, ofV, lk, putT, erA, inB, opt, bnd, req, ret, onQ, ap, binI, binG, binF, intF, bltQ, bltV, lenF, true_and, and_self, or_false, Nat.reduceEqDiff, Nat.reduceLT, Nat.reduceAdd, if_true, if_false, List.getElem?_cons_zero, Option.bind_some, Option.map_some, tt_39, c1]
  refine hK _ ?_
  clear hK K
  refine W.cond (b := false) (by simp only [ev, lk, Nat.reduceEqDiff, if_true, if_false]) (fun h => absurd h (by simp)) (fun _ => W.exit ?_)
  simp only [thn_normal, thn_exit, inb_exit, if_true]
  refine hKy _ ?_
  
  generalize blN s1 A (A.length / 64) = s2 at *
  refine W.seqK fun Kx hKx => ?_
  refine W.seqK fun K hK => W.regionK tt_ok ?_
  simp only [exOps_nil, exOps_cons, exOp_eq, nx_eq, cur_eq, stepQ, ev, ofV, putT, erA, inB, opt, bnd, req, ret, onQ, ap, ldP, ldC, ldS, Kd.agg, comps, csize, takeI, takeC, dropC, true_and, and_self, Nat.reduceEqDiff, Nat.reduceLT, Nat.reduceLeDiff, Nat.reduceAdd, Nat.reduceSub, Nat.sub_self, Nat.le_refl, Nat.add_zero, if_true, if_false, reduceCtorEq, Option.bind_some, Option.map_some, tt_93, G]
  refine hK _ ?_
  clear hK K
  refine W.blockK ?_
  refine W.loopK (fun k : Nat => k ≤ 8) (fun k => ⟨[(2, .ptr 0 0 0 1), (4, .ptr 16 0 0 1), (5, .sl 224 1 (64 * (A.length / 64)) (A.length - 64 * (A.length / 64))), (47, .agg [.ints .u32 8 startL]), (48, .int .i64 (k : Int))], [(224, .vec 5 (.ints .u8 A)), (0, .obj 96 (.agg [.ints .u32 8 (suN s2 startL k), .lstI .u8 r, .int .u64 nn])), (16, .obj 96 (.agg [.ints .u32 8 (List.replicate 8 0), .nils, .int .u64 0]))], 4096, 64⟩) (fun k => 8 - k) 0 (by simp) (by simp [suN, wk, leL, lk, nmT, nmE, nmH, AV.nmIn, AV.nmInL, Ent.nmIn, Row.nmIn]) ?_
  intro k hk K3 hK3
  have hal := suN_len s2 startL hbl k
  by_cases hlt : k < 8
  · have c1 : (k : Int) < 8 := by omega
    refine W.seqK fun K hK => W.regionK tt_ok ?_
    simp only [decide_true, exOps_nil, exOps_cons, exOp_eq, nx_eq, cur_eq, stepQ, ev, ofV, lk, putT, erA, inB, opt, bnd, req, ret, onQ, ap, binI, binG, binF, intF, true_and, and_self, Nat.reduceEqDiff, Nat.reduceLT, Nat.reduceAdd, if_true, if_false, c1]
    refine hK _ ?_
    clear hK K
    refine W.seqK fun K hK => W.cond (b := true) (by simp only [ev, lk, Nat.reduceEqDiff, if_true, if_false]) (fun _ => W.skip ?_) (fun h => absurd h (by simp))
    rw [thn_normal]
    refine hK _ ?_
    clear hK K
    refine W.seqK fun K hK => W.blockK ?_
    refine W.seqK fun K hK => W.regionK tt_ok ?_
    simp only [exOps_nil, exOps_cons, exOp_eq, nx_eq, cur_eq, stepQ, ev, lk, putT, erA, inB, opt, bnd, req, ret, onQ, ap, Kd.isInt, ixV, asI, ldC, ldS, Kd.agg, csize, takeI, takeC, dropC, and_true, true_and, Nat.reduceEqDiff, Nat.reduceLT, Nat.reduceLeDiff, Nat.reduceAdd, Nat.reduceSub, Int.toNat_natCast, Nat.add_zero, Nat.zero_add, if_true, if_false, Bool.false_eq_true, reduceCtorEq, Option.bind_some, Option.map_some, tt_66, tt_93, Int.toNat_natCast]
    repeat (refine ⟨by omega, ?_⟩)
    refine hK _ ?_
    clear hK K
    refine W.region tt_ok ?_
    simp only [exOps_nil, exOps_cons, exOp_eq, nx_eq, cur_eq, stepQ, ev, lk, putT, erA, inB, opt, bnd, req, ret, onQ, ap, up, er, AV.isTup, AV.isAgg, binI, binG, binF, intF, Kd.elem, Kd.isInt, ixA, asI, ldP, ldE, ldC, ldS, Kd.agg, comps, csize, takeI, takeC, dropC, stP, stE, stC, stS, fldF, thn_normal, inb_normal, and_true, true_and, and_self, Nat.reduceEqDiff, Nat.reduceLT, Nat.reduceLeDiff, Nat.reduceAdd, Nat.reduceSub, Int.toNat_natCast, Nat.add_zero, Nat.zero_add, if_true, if_false, Bool.false_eq_true, reduceCtorEq, ne_eq, not_false_eq_true, List.getElem?_cons_zero, Option.bind_some, Option.map_some, tt_66, tt_93, tt_96, Int.toNat_natCast]
    repeat (refine ⟨by omega, ?_⟩)
    refine hK _ ?_
    clear hK K
    refine W.region tt_ok ?_
    simp only [exOps_nil, exOps_cons, exOp_eq, nx_eq, cur_eq, stepQ, ev, ofV, lk, putT, erA, inB, opt, bnd, req, ret, onQ, ap, binI, binG, binF, intF, thn_normal, true_and, and_self, Nat.reduceEqDiff, Nat.reduceLT, Nat.reduceAdd, if_true, if_false, wrap_up k (by omega)]
    refine hK3 _ (k + 1) (by omega) (by omega) ?_
    simp [suN, wk, leL, lk, nmT, nmE, nmH, AV.nmIn, AV.nmInL, Ent.nmIn, Row.nmIn]
  have hk' : k = 8 := by omega
  subst hk'
  have c1 : ¬ (((8 : Nat) : Int) < 8) := by omega
  refine W.seqK fun K hK => W.regionK tt_ok ?_
  simp only [decide_false, exOps_nil, exOps_cons, exOp_eq, nx_eq, cur_eq, stepQ, ev, ofV, lk, putT, erA, inB, opt, bnd, req, ret, onQ, ap, binI, binG, binF, intF, true_and, and_self, Nat.reduceEqDiff, Nat.reduceLT, Nat.reduceAdd, if_true, if_false, c1]
  refine hK _ ?_
  clear hK K
  refine W.seqK fun K hK => W.cond (b := false) (by simp only [ev, lk, Nat.reduceEqDiff, if_true, if_false]) (fun h => absurd h (by simp)) (fun _ => W.exit ?_)
  simp only [thn_normal, thn_exit, inb_exit, if_true]
  refine hKx _ ?_
  refine W.seqK fun K hK => W.regionK tt_ok ?_
  simp only [exOps_nil, exOps_cons, exOp_eq, nx_eq, cur_eq, stepQ, ev, lk, putT, erA, inB, opt, bnd, req, ret, onQ, ap, up, er, AV.isTup, AV.isAgg, Kd.agg, comps, szL, csize, takeI, takeC, dropC, stP, stE, stC, stS, fldF, and_true, true_and, and_self, and_false, Nat.reduceEqDiff, Nat.reduceLT, Nat.reduceLeDiff, Nat.reduceAdd, Nat.reduceSub, Nat.sub_self, Nat.le_refl, Nat.add_zero, Nat.zero_add, if_true, if_false, Bool.false_eq_true, reduceCtorEq, ne_eq, not_false_eq_true, List.getElem?_cons_zero, List.getElem?_cons_succ, Option.bind_some, Option.map_some, List.nil_append, List.cons_append, tt_39, tt_96]
  refine hK _ ?_
  clear hK K
  refine W.seqK fun K hK => W.regionK tt_ok ?_
  simp only [exOps_nil, exOps_cons, exOp_eq, nx_eq, cur_eq, stepQ, ev, lk, putT, erA, inB, opt, bnd, req, ret, onQ, ap, up, er, AV.isAgg, ldP, ldE, ldC, ldS, Kd.agg, comps, szL, csize, takeI, takeC, dropC, stP, stE, stC, stS, true_and, and_self, Nat.reduceEqDiff, Nat.reduceLT, Nat.reduceLeDiff, Nat.reduceAdd, Nat.reduceSub, Nat.sub_self, Nat.le_refl, Nat.add_zero, Nat.zero_add, if_true, if_false, reduceCtorEq, Option.bind_some, Option.map_some, List.append_nil, List.nil_append, tt_96]
  refine hK _ ?_
  clear hK K
  refine W.ret ?_
  simp only [fin_ret, finB, resQ, resV, leL, AV.nmIn, AV.nmInL, entsIn, lk, opt, bnd, req, ret, onQ, AV.isTup, ldP, ldE, ldC, ldS, Kd.agg, comps, csize, takeI, takeC, dropC, and_true, true_and, and_self, Nat.reduceEqDiff, Nat.reduceLT, Nat.reduceLeDiff, Nat.reduceSub, Nat.sub_self, Nat.le_refl, Nat.add_zero, if_true, if_false, reduceCtorEq, Option.bind_some, Option.map_some, tt_96]
  simp [Nm, lk, Ent.nmIn, Row.nmIn]
end Go.Proofs.Ytbefcdgjainflaa
