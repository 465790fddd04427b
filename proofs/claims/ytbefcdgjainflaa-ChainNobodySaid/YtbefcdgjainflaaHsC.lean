/- mixed: the state behind a block. -/
import Derived.Test.YtbefcdgjainflaaHsA
-- TT 3 5 39 66 93 108 105 106 109
set_option linter.unusedVariables false
set_option linter.unusedSectionVars false
set_option linter.unusedSimpArgs false
namespace Go.Proofs.Ytbefcdgjainflaa
open Sx
variable [Inhabited Tabs]
set_option maxRecDepth 100000
set_option maxHeartbeats 4000000
theorem call56 : Callable Try.prog 56 := ⟨_, Try.func56, by kernel_rfl, by kernel_rfl⟩
def tu (x : Int) (ns : List Int) : Int := tuN x ns ns.length
theorem turned_tu (x : Int) (ns : List Int) (hn : ∀ i, i < ns.length → 0 < ns.getD i 0 ∧ ns.getD i 0 < 32) (hl : ns.length < 100) : FnR Try.prog G 56 [.int .u32 x, .lstI .i64 ns] [] (.int .u32 (tu x ns)) [] := turned_fn x ns hn hl
/-- A word of a block. -/
def wrd (b : List Int) (i : Nat) : Int :=
  bits .or .u32 (bits .or .u32 (bits .or .u32 (IntKind.u32.wrap (IntKind.u32.wrap (b.getD (4 * i) 0) * 2 ^ min 24 IntKind.u32.bits)) (IntKind.u32.wrap (IntKind.u32.wrap (b.getD (4 * i + 1) 0) * 2 ^ min 16 IntKind.u32.bits))) (IntKind.u32.wrap (IntKind.u32.wrap (b.getD (4 * i + 2) 0) * 2 ^ min 8 IntKind.u32.bits))) (IntKind.u32.wrap (b.getD (4 * i + 3) 0))
/-- A word of those behind. -/
def sch (w : List Int) (i : Nat) : Int :=
  IntKind.u32.wrap (IntKind.u32.wrap (IntKind.u32.wrap (bits .xor .u32 (tu (w.getD (i - 2) 0) [17, 19]) ((w.getD (i - 2) 0).fdiv (2 ^ min 10 IntKind.u32.bits)) + w.getD (i - 7) 0) + bits .xor .u32 (tu (w.getD (i - 15) 0) [7, 18]) ((w.getD (i - 15) 0).fdiv (2 ^ min 3 IntKind.u32.bits))) + w.getD (i - 16) 0)
def wN (b : List Int) : Nat → List Int
  | 0 => List.replicate 64 0
  | i + 1 => (wN b i).set i (if i < 16 then wrd b i else sch (wN b i) i)
theorem wN_len (b : List Int) : ∀ k, (wN b k).length = 64
  | 0 => by simp [wN]
  | k + 1 => by simp [wN, wN_len b k]
def rT (x w : List Int) (i : Nat) : Int :=
  IntKind.u32.wrap (IntKind.u32.wrap (IntKind.u32.wrap (IntKind.u32.wrap (x.getD 7 0 + tu (x.getD 4 0) [6, 11, 25]) + bits .xor .u32 (bits .and .u32 (x.getD 4 0) (x.getD 5 0)) (bits .and .u32 (bits .xor .u32 IntKind.u32.max (x.getD 4 0)) (x.getD 6 0))) + constL.getD i 0) + w.getD i 0)
def rU (x : List Int) : Int :=
  IntKind.u32.wrap (tu (x.getD 0 0) [2, 13, 22] + bits .xor .u32 (bits .xor .u32 (bits .and .u32 (x.getD 0 0) (x.getD 1 0)) (bits .and .u32 (x.getD 0 0) (x.getD 2 0))) (bits .and .u32 (x.getD 1 0) (x.getD 2 0)))
def rS (x : List Int) : List Int := List.take 1 x ++ List.take 7 x
def rnd (x w : List Int) (i : Nat) : List Int := ((rS x).set 4 (IntKind.u32.wrap ((rS x).getD 4 0 + rT x w i))).set 0 (IntKind.u32.wrap (rT x w i + rU x))
def rndN (s w : List Int) : Nat → List Int
  | 0 => s
  | i + 1 => rnd (rndN s w i) w i
theorem rndN_len (s w : List Int) (h : s.length = 8) : ∀ k, (rndN s w k).length = 8
  | 0 => h
  | k + 1 => by simp [rndN, rnd, rS, rndN_len s w h k]
def adN (s x : List Int) : Nat → List Int
  | 0 => s
  | i + 1 => (adN s x i).set i (IntKind.u32.wrap ((adN s x i).getD i 0 + x.getD i 0))
theorem adN_len (s x : List Int) (h : s.length = 8) : ∀ k, (adN s x k).length = 8
  | 0 => h
  | k + 1 => by simp [adN, adN_len s x h k]
/-- The state behind a block. -/
def mixN (s b : List Int) : List Int := adN s (rndN s (wN b 64) 64) 8
theorem mixN_len (s b : List Int) (h : s.length = 8) : (mixN s b).length = 8 := adN_len _ _ h 8
theorem mixed_fn (s b : List Int) (hs : s.length = 8) (hb : b.length = 64) :
    FnR Try.prog G 55 [.agg [.ints .u32 8 s], .lstI .u8 b] [] (.agg [.ints .u32 8 (mixN s b)]) [] := by
  refine FnR.of_walk (m := 169) (n0 := 0) tt_ok Try.func55 rfl rfl (by simp) (by simp [nmH]) ?_
  rw [show Try.f55.results.toList = [.cell 4 93] from rfl]
  refine W.seqK fun K hK => W.regionK tt_ok ?_
  simp only [exOps_nil, exOps_cons, exOp_eq, nx_eq, cur_eq, stepQ, ev, lk, parT, putT, erA, inB, opt, req, ret, onQ, ap, up, er, AV.isTup, true_and, and_self, Nat.reduceEqDiff, Nat.reduceLT, Nat.reduceAdd, Nat.zero_add, if_true, if_false, reduceCtorEq, tt_93]
  refine hK _ ?_
  clear hK K
  refine W.seqK fun K hK => W.regionK tt_ok ?_
  simp only [exOps_nil, exOps_cons, exOp_eq, nx_eq, cur_eq, stepQ, putT, erA, inB, opt, ret, onQ, ap, up, er, true_and, Nat.reduceEqDiff, Nat.reduceLT, Nat.reduceAdd, if_false, reduceCtorEq, tt_106]
  refine hK _ ?_
  clear hK K
  refine W.seqK fun Kz hKz => ?_
  refine W.seqK fun K hK => W.regionK tt_ok ?_
  simp only [exOps_nil, exOps_cons, exOp_eq, nx_eq, cur_eq, stepQ, ev, ofV, putT, erA, inB, opt, ret, onQ, ap, true_and, Nat.reduceEqDiff, Nat.reduceLT, Nat.reduceAdd, if_false, reduceCtorEq]
  refine hK _ ?_
  clear hK K
  refine W.blockK ?_
  refine W.loopK (fun k : Nat => k ≤ 64) (fun k => ⟨[(1, .lstI .u8 b), (2, .ptr 0 0 0 1), (4, .ptr 16 0 0 1), (5, .ptr 32 0 0 1), (15, .int .i64 (k : Int))], [(32, .obj 106 (.agg [.ints .u32 64 (wN b k)])), (16, .obj 93 (.agg [.ints .u32 8 (List.replicate 8 0)])), (0, .obj 93 (.agg [.ints .u32 8 s]))], 1024, 169⟩) (fun k => 64 - k) 0 (by simp) (by simp [wN, wk, leL, lk, nmT, nmE, nmH, AV.nmIn, AV.nmInL, Ent.nmIn]) ?_
  intro k hk K3 hK3
  have hwl := wN_len b k
  by_cases hlt : k < 64
  · have c1 : (k : Int) < 64 := by omega
    refine W.seqK fun K hK => W.regionK tt_ok ?_
    simp only [decide_true, exOps_nil, exOps_cons, exOp_eq, nx_eq, cur_eq, stepQ, ev, ofV, lk, putT, erA, inB, opt, bnd, req, ret, onQ, ap, binI, binG, binF, intF, true_and, and_self, Nat.reduceEqDiff, Nat.reduceLT, Nat.reduceAdd, if_true, if_false, c1]
    refine hK _ ?_
    clear hK K
    refine W.seqK fun K hK => W.cond (b := true) (by simp only [ev, lk, Nat.reduceEqDiff, if_true, if_false]) (fun _ => W.skip ?_) (fun h => absurd h (by simp))
    rw [thn_normal]
    refine hK _ ?_
    clear hK K
    refine W.seqK fun K hK => W.blockK ?_
    refine W.seqK fun K hK => W.regionK tt_ok ?_
    simp only [exOps_nil, exOps_cons, exOp_eq, nx_eq, cur_eq, stepQ, ev, lk, putT, erA, inB, opt, ret, onQ, ap, true_and, Nat.reduceEqDiff, Nat.reduceLT, Nat.reduceAdd, if_true, if_false]
    refine hK _ ?_
    clear hK K
    refine W.seqK fun K1 hK1 => ?_
    by_cases h16 : k < 16
    · have c2 : (k : Int) < 16 := by omega
      have m0 : IntKind.i64.wrap (4 * (k : Int)) = ((4 * k : Nat) : Int) := by rw [IntKind.wrap_i64]; omega
      have m1 : IntKind.i64.wrap (((4 * k : Nat) : Int) + 1) = ((4 * k + 1 : Nat) : Int) := by rw [IntKind.wrap_i64]; omega
      have m2 : IntKind.i64.wrap (((4 * k : Nat) : Int) + 2) = ((4 * k + 2 : Nat) : Int) := by rw [IntKind.wrap_i64]; omega
      have m3 : IntKind.i64.wrap (((4 * k : Nat) : Int) + 3) = ((4 * k + 3 : Nat) : Int) := by rw [IntKind.wrap_i64]; omega
      refine W.seqK fun K hK => W.regionK tt_ok ?_
      simp only [decide_true, exOps_nil, exOps_cons, exOp_eq, nx_eq, cur_eq, stepQ, ev, ofV, lk, putT, erA, inB, opt, bnd, req, ret, onQ, ap, binI, binG, binF, intF, true_and, and_self, Nat.reduceEqDiff, Nat.reduceLT, Nat.reduceAdd, if_true, if_false, c2]
      refine hK _ ?_
      clear hK K
      refine W.cond (b := true) (by simp only [ev, lk, Nat.reduceEqDiff, if_true, if_false]) (fun _ => ?_) (fun h => absurd h (by simp))
      refine W.seqK fun K hK => W.drawK [⟨0, false, [], false⟩, ⟨0, false, [], false⟩, ⟨0, false, [], false⟩, ⟨0, false, [2], false⟩, ⟨0, false, [1, 2, 3], false⟩, ⟨0, false, [1, 2, 3, 4], false⟩, ⟨0, false, [1, 2, 3, 4, 5], false⟩, ⟨0, false, [1, 2, 3, 4, 5, 6], false⟩, ⟨0, false, [], false⟩, ⟨0, false, [], false⟩, ⟨0, false, [9], false⟩, ⟨0, false, [9, 10], false⟩, ⟨0, false, [8, 9, 10, 11], false⟩, ⟨0, false, [8, 9, 10, 11, 12], false⟩, ⟨0, false, [8, 9, 10, 11, 12, 13], false⟩, ⟨0, false, [8, 9, 10, 11, 12, 13, 14], false⟩, ⟨0, false, [1, 2, 3, 4, 5, 6, 7, 8, 9, 10, 11, 12, 13, 14, 15], false⟩, ⟨0, false, [], false⟩, ⟨0, false, [], false⟩, ⟨0, false, [18], false⟩, ⟨0, false, [18, 19], false⟩, ⟨0, false, [17, 18, 19, 20], false⟩, ⟨0, false, [17, 18, 19, 20, 21], false⟩, ⟨0, false, [17, 18, 19, 20, 21, 22], false⟩, ⟨0, false, [17, 18, 19, 20, 21, 22, 23], false⟩, ⟨0, false, [1, 2, 3, 4, 5, 6, 7, 8, 9, 10, 11, 12, 13, 14, 15, 16, 17, 18, 19, 20, 21, 22, 23, 24], false⟩, ⟨0, false, [], false⟩, ⟨0, false, [], false⟩, ⟨0, false, [27], false⟩, ⟨0, false, [27, 28], false⟩, ⟨0, false, [26, 27, 28, 29], false⟩, ⟨0, false, [26, 27, 28, 29, 30], false⟩, ⟨0, false, [26, 27, 28, 29, 30, 31], false⟩, ⟨0, false, [1, 2, 3, 4, 5, 6, 7, 8, 9, 10, 11, 12, 13, 14, 15, 16, 17, 18, 19, 20, 21, 22, 23, 24, 25, 26, 27, 28, 29, 30, 31, 32], false⟩, ⟨0, false, [0, 1, 2, 3, 4, 5, 6, 7, 8, 9, 10, 11, 12, 13, 14, 15, 16, 17, 18, 19, 20, 21, 22, 23, 24, 25, 26, 27, 28, 29, 30, 31, 32, 33], false⟩, ⟨2, false, [0, 1, 2, 3, 4, 5, 6, 7, 8, 9, 10, 11, 12, 13, 14, 15, 16, 17, 18, 19, 20, 21, 22, 23, 24, 25, 26, 27, 28, 29, 30, 31, 32, 33, 34], false⟩] mix tt_ok (by kernel_rfl) ?_
      simp only [exOp_eq, exD_nil, exD_cons, nxD_eq, cur_eq, flI, ownB, stepQ, ev, ofV, lk, putT, erA, inB, opt, bnd, req, ret, onQ, ap, up, er, AV.isTup, AV.isAgg, binI, binG, binF, intF, shiftF, Kd.elem, Kd.isInt, ixA, asI, ldP, ldC, ldS, Kd.agg, comps, csize, takeI, takeC, dropC, stP, stE, stC, stS, cvQ, and_true, true_and, and_self, Nat.reduceEqDiff, Nat.reduceLT, Nat.reduceLeDiff, Nat.reduceAdd, Nat.reduceSub, Int.reduceLE, Int.reduceToNat, Nat.sub_self, Int.toNat_natCast, Nat.le_refl, Nat.zero_add, if_true, if_false, Bool.false_eq_true, reduceCtorEq, Option.bind_some, Option.map_some, tt_5, tt_39, tt_66, tt_106, m0, m1, m2, m3, Int.toNat_natCast]
      refine ⟨by omega, by omega, by omega, by omega, by omega, by omega, ?_⟩
      refine hK _ ?_
      clear hK K
      refine W.exit ?_
      simp only [thn_normal, thn_exit, inb_exit, if_true, if_false, reduceCtorEq]
      refine hK _ ?_
      refine W.region tt_ok ?_
      simp only [exOps_nil, exOps_cons, exOp_eq, nx_eq, cur_eq, stepQ, ev, ofV, lk, putT, erA, inB, opt, bnd, req, ret, onQ, ap, binI, binG, binF, intF, thn_normal, true_and, and_self, Nat.reduceEqDiff, Nat.reduceLT, Nat.reduceAdd, if_true, if_false, wrap_up k (by omega)]
      refine hK3 _ (k + 1) (by omega) (by omega) ?_
      simp [wN, h16, wrd, wk, leL, lk, nmT, nmE, nmH, AV.nmIn, AV.nmInL, Ent.nmIn]
    · have c2 : ¬ (k : Int) < 16 := by omega
      have m2 : IntKind.i64.wrap ((k : Int) - 2) = ((k - 2 : Nat) : Int) := by rw [IntKind.wrap_i64]; omega
      have m15 : IntKind.i64.wrap ((k : Int) - 15) = ((k - 15 : Nat) : Int) := by rw [IntKind.wrap_i64]; omega
      have m7 : IntKind.i64.wrap ((k : Int) - 7) = ((k - 7 : Nat) : Int) := by rw [IntKind.wrap_i64]; omega
      have m16 : IntKind.i64.wrap ((k : Int) - 16) = ((k - 16 : Nat) : Int) := by rw [IntKind.wrap_i64]; omega
      have ca := turned_tu ((wN b k).getD (k - 2) 0) [17, 19] (by decide) (by decide)
      have cb := turned_tu ((wN b k).getD (k - 15) 0) [7, 18] (by decide) (by decide)
      refine W.seqK fun K hK => W.regionK tt_ok ?_
      simp only [decide_false, exOps_nil, exOps_cons, exOp_eq, nx_eq, cur_eq, stepQ, ev, ofV, lk, putT, erA, inB, opt, bnd, req, ret, onQ, ap, binI, binG, binF, intF, true_and, and_self, Nat.reduceEqDiff, Nat.reduceLT, Nat.reduceAdd, if_true, if_false, c2]
      refine hK _ ?_
      clear hK K
      refine W.cond (b := false) (by simp only [ev, lk, Nat.reduceEqDiff, if_true, if_false]) (fun h => absurd h (by simp)) (fun _ => W.skip ?_)
      rw [thn_normal]
      refine hK1 _ ?_
      refine W.seqK fun K hK => W.drawK [⟨0, false, [], false⟩, ⟨0, false, [0], false⟩, ⟨0, false, [0, 1], false⟩, ⟨0, false, [0, 1, 2], false⟩, ⟨0, false, [], false⟩, ⟨0, false, [4], false⟩, ⟨0, false, [4, 5], false⟩, ⟨0, false, [4, 5, 6], false⟩, ⟨0, false, [0, 1, 2, 3], false⟩, ⟨0, false, [0, 1, 2, 3, 4, 5, 6, 7, 8], false⟩] mix tt_ok (by kernel_rfl) ?_
      simp only [exOp_eq, exD_nil, exD_cons, nxD_eq, cur_eq, flI, ownB, stepQ, ev, ofV, lk, putT, erA, inB, opt, bnd, req, ret, onQ, ap, binI, binG, binF, intF, Kd.elem, Kd.isInt, ixA, asI, ldP, ldE, ldC, ldS, Kd.agg, comps, csize, takeI, takeC, dropC, and_true, true_and, and_self, Nat.reduceEqDiff, Nat.reduceLT, Nat.reduceLeDiff, Nat.reduceAdd, Nat.reduceSub, Int.toNat_natCast, Nat.zero_add, if_true, if_false, Bool.false_eq_true, reduceCtorEq, Option.bind_some, Option.map_some, tt_66, tt_106, m2, m15, Int.toNat_natCast]
      refine ⟨by omega, by omega, by omega, by omega, ?_⟩
      refine hK _ ?_
      clear hK K
      refine exD_sound (A := [⟨0, false, [], false⟩, ⟨0, false, [], false⟩, ⟨1, true, [], false⟩, ⟨0, true, [1, 2], false⟩, ⟨0, false, [], false⟩, ⟨0, false, [4], false⟩, ⟨0, false, [1, 2, 3, 4, 5], false⟩, ⟨0, false, [], false⟩, ⟨0, false, [7], false⟩, ⟨0, true, [7, 8], false⟩, ⟨0, true, [7, 8, 9], false⟩, ⟨0, false, [1, 2, 3, 4, 5, 6, 7, 8, 9, 10], false⟩, ⟨0, false, [], false⟩, ⟨1, true, [], false⟩, ⟨0, false, [1, 2, 3, 12, 13], false⟩, ⟨0, false, [], false⟩, ⟨0, false, [15], false⟩, ⟨0, false, [1, 2, 3, 12, 13, 14, 15, 16], false⟩, ⟨0, false, [1, 2, 3, 4, 5, 6, 7, 8, 9, 10, 11, 12, 13, 14, 15, 16, 17], false⟩, ⟨0, false, [], false⟩, ⟨0, false, [19], false⟩, ⟨0, true, [19, 20], false⟩, ⟨0, true, [19, 20, 21], false⟩, ⟨0, false, [1, 2, 3, 4, 5, 6, 7, 8, 9, 10, 11, 12, 13, 14, 15, 16, 17, 18, 19, 20, 21, 22], false⟩, ⟨0, false, [0, 1, 2, 3, 4, 5, 6, 7, 8, 9, 10, 11, 12, 13, 14, 15, 16, 17, 18, 19, 20, 21, 22, 23], false⟩, ⟨2, false, [0, 1, 2, 3, 4, 5, 6, 7, 8, 9, 10, 11, 12, 13, 14, 15, 16, 17, 18, 19, 20, 21, 22, 23, 24], false⟩]) mix tt_ok (by kernel_rfl) ?_
      simp only [decide_true, decide_false, Bool.or_true, Bool.or_false, List.contains_cons, List.contains_nil, Nat.reduceBEq, exOp_eq, exCall_eq, exD_cons, nxD_eq, cur_eq, flI, flE, ownB, ownL, evL, evP, stepQ, ev, ofV, lk, putT, erA, inB, opt, bnd, req, ret, onQ, ap, up, er, AV.isTup, AV.isAgg, intsOf, Kd.agg, comps, szL, csize, takeI, takeC, dropC, stC, stS, Row.len, Row.sz, bldA, bslQ, zeroCs, cellsRow, and_true, true_and, and_self, and_false, Nat.reduceEqDiff, Nat.reduceLT, Nat.reduceLeDiff, Nat.reduceAdd, Nat.reduceSub, Nat.reduceMul, Nat.reduceDiv, Nat.sub_self, Nat.le_refl, Nat.add_zero, Nat.zero_add, if_true, if_false, Bool.false_eq_true, reduceCtorEq, Option.bind_some, Option.map_some, List.append_nil, List.nil_append, List.cons_append, tt_3, tt_109, List.replicate_succ, List.replicate_zero, List.set_cons_zero, List.set_cons_succ, List.length_cons, List.length_nil]
      refine CallK.pure _ _ ca call56 (by simp only [Bool.or_true, Bool.or_false, AV.nmIn, lk, opt, bnd, req, ret, onQ, AV.isTup, isTupL, Ent.row, and_true, true_and, and_self, Nat.reduceEqDiff, Nat.zero_add, if_true, if_false, reduceCtorEq, forall_const, List.append_nil, vw.vwL, vw, viewR, AV.free, Ent.row, Bool.or_self]; all_goals (and_intros <;> first | exact AV.subL_refl _ | omega | (simp [AV.sub]; done) | rfl | (simp [AV.subL_refl]; done) | (simp; exact AV.subL_refl _))) ?_
      simp only [decide_true, decide_false, Bool.or_false, List.contains_cons, List.contains_nil, Nat.reduceBEq, exOp_eq, exCall_eq, exD_cons, nxD_eq, cur_eq, flI, flE, ownB, ownL, evL, evP, stepQ, ev, ofV, lk, putT, erA, inB, opt, bnd, req, ret, onQ, ap, up, er, AV.isTup, AV.isAgg, binI, binG, binF, intF, shiftF, intsOf, Kd.elem, Kd.isInt, ixA, asI, ldP, ldE, ldC, ldS, Kd.agg, comps, szL, csize, takeI, takeC, dropC, stC, stS, Row.len, Row.sz, bldA, bslQ, zeroCs, cellsRow, and_true, true_and, and_self, and_false, Nat.reduceEqDiff, Nat.reduceLT, Nat.reduceLeDiff, Nat.reduceAdd, Nat.reduceSub, Nat.reduceMul, Nat.reduceDiv, Int.reduceLE, Int.reduceToNat, Nat.sub_self, Int.toNat_natCast, Nat.le_refl, Nat.add_zero, Nat.zero_add, if_true, if_false, Bool.false_eq_true, reduceCtorEq, Option.bind_some, Option.map_some, List.append_nil, List.nil_append, List.cons_append, tt_3, tt_66, tt_106, tt_109, List.replicate_succ, List.replicate_zero, List.set_cons_zero, List.set_cons_succ, List.length_cons, List.length_nil, m7, Int.toNat_natCast]
      repeat (refine ⟨by omega, ?_⟩)
      refine CallK.pure _ _ cb call56 (by simp only [Bool.or_true, Bool.or_false, AV.nmIn, lk, opt, bnd, req, ret, onQ, AV.isTup, isTupL, Ent.row, and_true, true_and, and_self, Nat.reduceEqDiff, Nat.zero_add, if_true, if_false, reduceCtorEq, forall_const, List.append_nil, vw.vwL, vw, viewR, AV.free, Ent.row, Bool.or_self]; all_goals (and_intros <;> first | exact AV.subL_refl _ | omega | (simp [AV.sub]; done) | rfl | (simp [AV.subL_refl]; done) | (simp; exact AV.subL_refl _))) ?_
      simp only [decide_true, decide_false, Bool.or_false, List.contains_cons, List.contains_nil, Nat.reduceBEq, exOp_eq, exD_nil, exD_cons, nxD_eq, cur_eq, flI, flE, ownB, stepQ, ev, ofV, lk, putT, erA, inB, opt, bnd, req, ret, onQ, ap, up, er, AV.isTup, AV.isAgg, binI, binG, binF, intF, shiftF, Kd.elem, Kd.isInt, ixA, asI, ldP, ldE, ldC, ldS, Kd.agg, comps, csize, takeI, takeC, dropC, stP, stE, stC, stS, thn_normal, inb_normal, and_true, true_and, and_self, Nat.reduceEqDiff, Nat.reduceLT, Nat.reduceLeDiff, Nat.reduceAdd, Nat.reduceSub, Nat.reduceDiv, Int.reduceLE, Int.reduceToNat, Int.toNat_natCast, Nat.zero_add, if_true, if_false, Bool.false_eq_true, reduceCtorEq, Option.bind_some, Option.map_some, tt_66, tt_106, List.replicate_succ, List.replicate_zero, m16, Int.toNat_natCast]
      refine ⟨by omega, by omega, by omega, by omega, ?_⟩
      refine hK _ ?_
      refine W.region tt_ok ?_
      simp only [exOps_nil, exOps_cons, exOp_eq, nx_eq, cur_eq, stepQ, ev, ofV, lk, putT, erA, inB, opt, bnd, req, ret, onQ, ap, binI, binG, binF, intF, thn_normal, true_and, and_self, Nat.reduceEqDiff, Nat.reduceLT, Nat.reduceAdd, if_true, if_false, wrap_up k (by omega)]
      refine hK3 _ (k + 1) (by omega) (by omega) ?_
      simp only [wN, if_neg h16, sch]
      simp [wk, leL, lk, nmT, nmE, nmH, AV.nmIn, AV.nmInL, Ent.nmIn]
  have hk' : k = 64 := by omega
  subst hk'
  have c1 : ¬ (((64 : Nat) : Int) < 64) := by omega
  refine W.seqK fun K hK => W.regionK tt_ok ?_
  simp only [decide_false, exOps_nil, exOps_cons, exOp_eq, nx_eq, cur_eq, stepQ, ev, ofV, lk, putT, erA, inB, opt, bnd, req, ret, onQ, ap, binI, binG, binF, intF, true_and, and_self, Nat.reduceEqDiff, Nat.reduceLT, Nat.reduceAdd, if_true, if_false, c1]
  refine hK _ ?_
  clear hK K
  refine W.seqK fun K hK => W.cond (b := false) (by simp only [ev, lk, Nat.reduceEqDiff, if_true, if_false]) (fun h => absurd h (by simp)) (fun _ => W.exit ?_)
  simp only [thn_normal, thn_exit, inb_exit, if_true]
  refine hKz _ ?_
  unfold mixN
  generalize wN b 64 = w at *
  refine W.seqK fun K hK => W.regionK tt_ok ?_
  simp only [exOps_nil, exOps_cons, exOp_eq, nx_eq, cur_eq, stepQ, ev, lk, putT, erA, inB, opt, bnd, req, ret, onQ, ap, up, er, AV.isAgg, ldP, ldE, ldC, ldS, Kd.agg, comps, szL, csize, takeI, takeC, dropC, stP, stE, stC, stS, true_and, and_self, Nat.reduceEqDiff, Nat.reduceLT, Nat.reduceLeDiff, Nat.reduceAdd, Nat.reduceSub, Nat.sub_self, Nat.le_refl, Nat.add_zero, Nat.zero_add, if_true, if_false, reduceCtorEq, Option.bind_some, Option.map_some, List.append_nil, List.nil_append, tt_93]
  refine hK _ ?_
  clear hK K
  refine W.seqK fun Ky hKy => ?_
  refine W.seqK fun K hK => W.regionK tt_ok ?_
  simp only [exOps_nil, exOps_cons, exOp_eq, nx_eq, cur_eq, stepQ, ev, ofV, putT, erA, inB, opt, bnd, req, ret, onQ, ap, ldP, ldC, ldS, Kd.agg, comps, csize, takeI, takeC, dropC, true_and, and_self, Nat.reduceEqDiff, Nat.reduceLT, Nat.reduceLeDiff, Nat.reduceAdd, Nat.reduceSub, Nat.sub_self, Nat.le_refl, Nat.add_zero, if_true, if_false, reduceCtorEq, Option.bind_some, Option.map_some, tt_106, G]
  refine hK _ ?_
  clear hK K
  refine W.blockK ?_
  refine W.loopK (fun k : Nat => k ≤ 64) (fun k => ⟨[(2, .ptr 0 0 0 1), (4, .ptr 16 0 0 1), (5, .ptr 32 0 0 1), (9, .ptr 1056 0 0 1), (90, .agg [.ints .u32 64 constL]), (91, .int .i64 (k : Int))], [(1056, .obj 93 (.agg [.ints .u32 8 (rndN s w k)])), (32, .obj 106 (.agg [.ints .u32 64 w])), (16, .obj 93 (.agg [.ints .u32 8 (List.replicate 8 0)])), (0, .obj 93 (.agg [.ints .u32 8 s]))], 2048, 169⟩) (fun k => 64 - k) 0 (by simp) (by simp [rndN, wk, leL, lk, nmT, nmE, nmH, AV.nmIn, AV.nmInL, Ent.nmIn]) ?_
  intro k hk K3 hK3
  have hxl := rndN_len s w hs k
  generalize hX : rndN s w k = x at *
  by_cases hlt : k < 64
  · have c1 : (k : Int) < 64 := by omega
    have ca := turned_tu (x.getD 4 0) [6, 11, 25] (by decide) (by decide)
    have cb := turned_tu (x.getD 0 0) [2, 13, 22] (by decide) (by decide)
    refine W.seqK fun K hK => W.regionK tt_ok ?_
    simp only [decide_true, exOps_nil, exOps_cons, exOp_eq, nx_eq, cur_eq, stepQ, ev, ofV, lk, putT, erA, inB, opt, bnd, req, ret, onQ, ap, binI, binG, binF, intF, true_and, and_self, Nat.reduceEqDiff, Nat.reduceLT, Nat.reduceAdd, if_true, if_false, c1]
    refine hK _ ?_
    clear hK K
    refine W.seqK fun K hK => W.cond (b := true) (by simp only [ev, lk, Nat.reduceEqDiff, if_true, if_false]) (fun _ => W.skip ?_) (fun h => absurd h (by simp))
    rw [thn_normal]
    refine hK _ ?_
    clear hK K
    refine W.seqK fun K hK => W.blockK ?_
    refine W.seqK fun K hK => W.regionK tt_ok ?_
    simp only [exOps_nil, exOps_cons, exOp_eq, nx_eq, cur_eq, stepQ, ev, lk, putT, erA, inB, opt, bnd, req, ret, onQ, ap, Kd.isInt, ixV, asI, ldC, ldS, Kd.agg, csize, takeI, takeC, dropC, and_true, true_and, Nat.reduceEqDiff, Nat.reduceLT, Nat.reduceLeDiff, Nat.reduceAdd, Nat.reduceSub, Int.toNat_natCast, Nat.add_zero, Nat.zero_add, if_true, if_false, Bool.false_eq_true, reduceCtorEq, Option.bind_some, Option.map_some, tt_66, tt_106, Int.toNat_natCast]
    repeat (refine ⟨by omega, ?_⟩)
    refine hK _ ?_
    clear hK K
    refine W.seqK fun K hK => W.drawK [⟨0, true, [], false⟩, ⟨0, true, [0], false⟩, ⟨0, true, [], false⟩, ⟨0, true, [2], false⟩, ⟨1, false, [], false⟩, ⟨0, false, [2, 3, 4], false⟩, ⟨0, false, [0, 1, 2, 3, 4, 5], false⟩, ⟨0, true, [], false⟩, ⟨0, true, [7], false⟩, ⟨0, true, [], false⟩, ⟨0, true, [9], false⟩, ⟨0, false, [7, 8, 9, 10], false⟩, ⟨0, true, [], false⟩, ⟨0, true, [12], false⟩, ⟨0, false, [12, 13], false⟩, ⟨0, true, [], false⟩, ⟨0, true, [15], false⟩, ⟨0, false, [12, 13, 14, 15, 16], false⟩, ⟨0, false, [7, 8, 9, 10, 11, 12, 13, 14, 15, 16, 17], false⟩, ⟨0, false, [0, 1, 2, 3, 4, 5, 6, 7, 8, 9, 10, 11, 12, 13, 14, 15, 16, 17, 18], false⟩, ⟨0, false, [], false⟩, ⟨0, false, [0, 1, 2, 3, 4, 5, 6, 7, 8, 9, 10, 11, 12, 13, 14, 15, 16, 17, 18, 19, 20], false⟩, ⟨0, false, [], false⟩, ⟨0, true, [22], false⟩, ⟨0, true, [22, 23], false⟩, ⟨0, false, [0, 1, 2, 3, 4, 5, 6, 7, 8, 9, 10, 11, 12, 13, 14, 15, 16, 17, 18, 19, 20, 21, 22, 23, 24], false⟩, ⟨0, false, [0, 1, 2, 3, 4, 5, 6, 7, 8, 9, 10, 11, 12, 13, 14, 15, 16, 17, 18, 19, 20, 21, 22, 23, 24, 25], false⟩] mix tt_ok (by kernel_rfl) ?_
    simp only [decide_true, Bool.or_true, Bool.or_false, List.contains_cons, List.contains_nil, Nat.reduceBEq, exOp_eq, exCall_eq, exD_cons, nxD_eq, cur_eq, flI, flE, ownB, ownL, evL, evP, stepQ, ev, ofV, lk, putT, erA, inB, opt, bnd, req, ret, onQ, ap, up, er, AV.isTup, AV.isAgg, intsOf, Kd.elem, Kd.isInt, ixA, asI, ldP, ldE, ldC, ldS, Kd.agg, comps, szL, csize, takeI, takeC, dropC, stC, stS, Row.len, Row.sz, bldA, bslQ, zeroCs, cellsRow, and_true, true_and, and_self, and_false, Nat.reduceEqDiff, Nat.reduceLT, Nat.reduceLeDiff, Nat.reduceAdd, Nat.reduceSub, Nat.reduceMul, Nat.reduceDiv, Int.reduceLE, Int.reduceToNat, Nat.sub_self, Nat.le_refl, Nat.add_zero, Nat.zero_add, if_true, if_false, Bool.false_eq_true, reduceCtorEq, Option.bind_some, Option.map_some, List.append_nil, List.nil_append, List.cons_append, tt_3, tt_66, tt_93, tt_109, List.replicate_succ, List.replicate_zero, List.set_cons_zero, List.set_cons_succ, List.length_cons, List.length_nil]
    repeat (refine ⟨by omega, ?_⟩)
    refine CallK.pure _ _ ca call56 (by simp only [Bool.or_true, Bool.or_false, AV.nmIn, lk, opt, bnd, req, ret, onQ, AV.isTup, isTupL, Ent.row, and_true, true_and, and_self, Nat.reduceEqDiff, Nat.zero_add, if_true, if_false, reduceCtorEq, forall_const, List.append_nil, vw.vwL, vw, viewR, AV.free, Ent.row, Bool.or_self]; all_goals (and_intros <;> first | exact AV.subL_refl _ | omega | (simp [AV.sub]; done) | rfl | (simp [AV.subL_refl]; done) | (simp; exact AV.subL_refl _))) ?_
    simp only [decide_true, decide_false, Bool.or_false, List.contains_cons, List.contains_nil, Nat.reduceBEq, exOp_eq, exD_nil, exD_cons, nxD_eq, cur_eq, flI, flE, ownB, stepQ, ev, ofV, lk, putT, erA, inB, opt, bnd, req, ret, onQ, ap, binI, binG, binF, intF, unF, Kd.elem, Kd.isInt, ixA, asI, ldP, ldE, ldC, ldS, Kd.agg, comps, csize, takeI, takeC, dropC, and_true, true_and, and_self, Nat.reduceEqDiff, Nat.reduceLT, Nat.reduceLeDiff, Nat.reduceAdd, Nat.reduceSub, Nat.reduceMul, Nat.reduceDiv, Int.reduceLE, Int.reduceToNat, Int.toNat_natCast, Nat.zero_add, if_true, if_false, Bool.false_eq_true, reduceCtorEq, Option.bind_some, Option.map_some, tt_66, tt_93, tt_106, List.replicate_succ, List.replicate_zero, Int.toNat_natCast]
    repeat (refine ⟨by omega, ?_⟩)
    refine hK _ ?_
    clear hK K
    refine W.seqK fun K hK => W.drawK [⟨0, true, [], false⟩, ⟨0, true, [0], false⟩, ⟨1, false, [], false⟩, ⟨0, false, [0, 1, 2], false⟩, ⟨0, true, [], false⟩, ⟨0, true, [4], false⟩, ⟨0, true, [], false⟩, ⟨0, true, [6], false⟩, ⟨0, false, [4, 5, 6, 7], false⟩, ⟨0, true, [], false⟩, ⟨0, true, [9], false⟩, ⟨0, true, [], false⟩, ⟨0, true, [11], false⟩, ⟨0, false, [9, 10, 11, 12], false⟩, ⟨0, false, [4, 5, 6, 7, 8, 9, 10, 11, 12, 13], false⟩, ⟨0, true, [], false⟩, ⟨0, true, [15], false⟩, ⟨0, true, [], false⟩, ⟨0, true, [17], false⟩, ⟨0, false, [15, 16, 17, 18], false⟩, ⟨0, false, [4, 5, 6, 7, 8, 9, 10, 11, 12, 13, 14, 15, 16, 17, 18, 19], false⟩, ⟨0, false, [0, 1, 2, 3, 4, 5, 6, 7, 8, 9, 10, 11, 12, 13, 14, 15, 16, 17, 18, 19, 20], false⟩, ⟨0, false, [0, 1, 2, 3, 4, 5, 6, 7, 8, 9, 10, 11, 12, 13, 14, 15, 16, 17, 18, 19, 20, 21], false⟩] mix tt_ok (by kernel_rfl) ?_
    simp only [decide_true, Bool.or_true, Bool.or_false, List.contains_cons, List.contains_nil, Nat.reduceBEq, exOp_eq, exCall_eq, exD_cons, nxD_eq, cur_eq, flI, flE, ownB, ownL, evL, evP, stepQ, ev, ofV, lk, putT, erA, inB, opt, bnd, req, ret, onQ, ap, up, er, AV.isTup, AV.isAgg, intsOf, Kd.elem, Kd.isInt, ixA, asI, ldP, ldE, ldC, ldS, Kd.agg, comps, szL, csize, takeI, takeC, dropC, stC, stS, Row.len, Row.sz, bldA, bslQ, zeroCs, cellsRow, and_true, true_and, and_self, and_false, Nat.reduceEqDiff, Nat.reduceLT, Nat.reduceLeDiff, Nat.reduceAdd, Nat.reduceSub, Nat.reduceMul, Nat.reduceDiv, Int.reduceLE, Int.reduceToNat, Nat.sub_self, Nat.le_refl, Nat.add_zero, Nat.zero_add, if_true, if_false, Bool.false_eq_true, reduceCtorEq, Option.bind_some, Option.map_some, List.append_nil, List.nil_append, List.cons_append, tt_3, tt_66, tt_93, tt_109, List.replicate_succ, List.replicate_zero, List.set_cons_zero, List.set_cons_succ, List.length_cons, List.length_nil]
    repeat (refine ⟨by omega, ?_⟩)
    refine CallK.pure _ _ cb call56 (by simp only [Bool.or_true, Bool.or_false, AV.nmIn, lk, opt, bnd, req, ret, onQ, AV.isTup, isTupL, Ent.row, and_true, true_and, and_self, Nat.reduceEqDiff, Nat.zero_add, if_true, if_false, reduceCtorEq, forall_const, List.append_nil, vw.vwL, vw, viewR, AV.free, Ent.row, Bool.or_self]; all_goals (and_intros <;> first | exact AV.subL_refl _ | omega | (simp [AV.sub]; done) | rfl | (simp [AV.subL_refl]; done) | (simp; exact AV.subL_refl _))) ?_
    simp only [decide_true, decide_false, Bool.or_false, List.contains_cons, List.contains_nil, Nat.reduceBEq, exOp_eq, exD_nil, exD_cons, nxD_eq, cur_eq, flI, flE, ownB, stepQ, ev, ofV, lk, putT, erA, inB, opt, bnd, req, ret, onQ, ap, binI, binG, binF, intF, Kd.elem, Kd.isInt, ixA, asI, ldP, ldE, ldC, ldS, Kd.agg, comps, csize, takeI, takeC, dropC, and_true, true_and, and_self, Nat.reduceEqDiff, Nat.reduceLT, Nat.reduceLeDiff, Nat.reduceAdd, Nat.reduceSub, Nat.reduceMul, Nat.reduceDiv, Int.reduceLE, Int.reduceToNat, Nat.add_zero, Nat.zero_add, if_true, if_false, Bool.false_eq_true, reduceCtorEq, Option.bind_some, Option.map_some, tt_66, tt_93, List.replicate_succ, List.replicate_zero]
    repeat (refine ⟨by omega, ?_⟩)
    refine hK _ ?_
    clear hK K
    refine W.seqK fun K hK => W.drawK [⟨0, false, [], false⟩, ⟨0, false, [], false⟩, ⟨2, false, [0, 1], false⟩] mix tt_ok (by kernel_rfl) ?_
    simp only [exOp_eq, exCall_eq, exD_nil, exD_cons, nxD_eq, cur_eq, flI, ownB, evL, stepQ, ev, ofV, lk, putT, erA, inB, opt, bnd, req, ret, onQ, ap, up, er, comps, szL, csize, bltQ, bltV, slF, bd, bds, copyQ, srcQ, Row.len, Row.sz, Row.take, Row.drop, Ent.put, Ent.row, and_true, true_and, and_self, or_false, Nat.reduceEqDiff, Nat.reduceLT, Nat.reduceLeDiff, Nat.reduceAdd, Nat.reduceSub, Nat.reduceMul, Int.reduceLE, Int.reduceToNat, Nat.add_zero, Nat.zero_add, if_true, if_false, reduceCtorEq, Option.bind_some, Option.map_some, tt_66, tt_93, tt_108, List.replicate_succ, List.replicate_zero]
    have h7 : (List.take 7 (List.drop 0 x)).length = 7 := by rw [List.drop_zero, List.length_take]; omega
    have hcp : List.take 1 x ++ List.take (min (List.take 7 (List.drop 0 x)).length 7) (List.take 7 (List.drop 0 x)) ++ List.drop (1 + (List.take (min (List.take 7 (List.drop 0 x)).length 7) (List.take 7 (List.drop 0 x))).length) x = rS x := by
      have h77 : List.take 7 (List.take 7 (List.drop 0 x)) = List.take 7 x := by rw [List.drop_zero, List.take_take]; rfl
      have h78 : (List.take 7 x).length = 7 := by rw [List.length_take]; omega
      rw [h7, Nat.min_self, h77, h78, List.drop_of_length_le (by omega), List.append_nil]; rfl
    rw [hcp]
    have hrl : (rS x).length = 8 := by simp [rS]; omega
    have hT : IntKind.u32.wrap (IntKind.u32.wrap (IntKind.u32.wrap (IntKind.u32.wrap (x.getD 7 0 + tu (x.getD 4 0) [6, 11, 25]) + bits .xor .u32 (bits .and .u32 (x.getD 4 0) (x.getD 5 0)) (bits .and .u32 (bits .xor .u32 (if IntKind.u32.signed = true then -1 else IntKind.u32.max) (x.getD 4 0)) (x.getD 6 0))) + constL.getD k 0) + w.getD k 0) = rT x w k := rfl
    have hU : IntKind.u32.wrap (tu (x.getD 0 0) [2, 13, 22] + bits .xor .u32 (bits .xor .u32 (bits .and .u32 (x.getD 0 0) (x.getD 1 0)) (bits .and .u32 (x.getD 0 0) (x.getD 2 0))) (bits .and .u32 (x.getD 1 0) (x.getD 2 0))) = rU x := rfl
    rw [hT, hU]
    refine ⟨by omega, ?_⟩
    refine hK _ ?_
    clear hK K
    refine W.seqK fun K hK => W.regionK tt_ok ?_
    simp only [exOps_nil, exOps_cons, exOp_eq, nx_eq, cur_eq, stepQ, ev, ofV, lk, putT, erA, inB, opt, bnd, req, ret, onQ, ap, up, er, AV.isTup, AV.isAgg, binI, binG, binF, intF, Kd.elem, Kd.isInt, ixA, asI, ldP, ldE, ldC, ldS, Kd.agg, comps, csize, takeI, takeC, dropC, stP, stE, stC, stS, and_true, true_and, and_self, Nat.reduceEqDiff, Nat.reduceLT, Nat.reduceLeDiff, Nat.reduceAdd, Nat.reduceSub, Nat.reduceMul, Int.reduceLE, Int.reduceToNat, Nat.zero_add, if_true, if_false, Bool.false_eq_true, reduceCtorEq, Option.bind_some, Option.map_some, tt_66, tt_93]
    repeat (refine ⟨by omega, ?_⟩)
    refine hK _ ?_
    clear hK K
    refine W.region tt_ok ?_
    simp only [exOps_nil, exOps_cons, exOp_eq, nx_eq, cur_eq, stepQ, ev, ofV, lk, putT, erA, inB, opt, bnd, req, ret, onQ, ap, up, er, AV.isTup, AV.isAgg, binI, binG, binF, intF, Kd.elem, Kd.isInt, ixA, asI, Kd.agg, comps, csize, takeI, takeC, dropC, stP, stE, stC, stS, thn_normal, inb_normal, and_true, true_and, and_self, Nat.reduceEqDiff, Nat.reduceLT, Nat.reduceLeDiff, Nat.reduceAdd, Nat.reduceSub, Nat.reduceMul, Int.reduceLE, Int.reduceToNat, Nat.add_zero, Nat.zero_add, if_true, if_false, Bool.false_eq_true, reduceCtorEq, Option.bind_some, Option.map_some, tt_66, tt_93]
    repeat (refine ⟨by omega, ?_⟩)
    refine hK _ ?_
    refine W.region tt_ok ?_
    simp only [exOps_nil, exOps_cons, exOp_eq, nx_eq, cur_eq, stepQ, ev, ofV, lk, putT, erA, inB, opt, bnd, req, ret, onQ, ap, binI, binG, binF, intF, thn_normal, true_and, and_self, Nat.reduceEqDiff, Nat.reduceLT, Nat.reduceAdd, if_true, if_false, wrap_up k (by omega)]
    refine hK3 _ (k + 1) (by omega) (by omega) ?_
    have hR : rndN s w (k + 1) = rnd x w k := by rw [rndN, hX]
    rw [hR]
    simp [rnd, wk, leL, lk, nmT, nmE, nmH, AV.nmIn, AV.nmInL, Ent.nmIn]
  have hk' : k = 64 := by omega
  subst hk'
  have c1 : ¬ (((64 : Nat) : Int) < 64) := by omega
  refine W.seqK fun K hK => W.regionK tt_ok ?_
  simp only [decide_false, exOps_nil, exOps_cons, exOp_eq, nx_eq, cur_eq, stepQ, ev, ofV, lk, putT, erA, inB, opt, bnd, req, ret, onQ, ap, binI, binG, binF, intF, true_and, and_self, Nat.reduceEqDiff, Nat.reduceLT, Nat.reduceAdd, if_true, if_false, c1]
  refine hK _ ?_
  clear hK K
  refine W.seqK fun K hK => W.cond (b := false) (by simp only [ev, lk, Nat.reduceEqDiff, if_true, if_false]) (fun h => absurd h (by simp)) (fun _ => W.exit ?_)
  simp only [thn_normal, thn_exit, inb_exit, if_true]
  refine hKy _ ?_
  refine W.seqK fun Kx hKx => ?_
  refine W.seqK fun K hK => W.regionK tt_ok ?_
  simp only [exOps_nil, exOps_cons, exOp_eq, nx_eq, cur_eq, stepQ, ev, ofV, putT, erA, inB, opt, ret, onQ, ap, true_and, Nat.reduceEqDiff, Nat.reduceLT, Nat.reduceAdd, if_false]
  refine hK _ ?_
  clear hK K
  refine W.blockK ?_
  refine W.loopK (fun k : Nat => k ≤ 8) (fun k => ⟨[(2, .ptr 0 0 0 1), (4, .ptr 16 0 0 1), (9, .ptr 1056 0 0 1), (156, .int .i64 (k : Int))], [(1056, .obj 93 (.agg [.ints .u32 8 x])), (16, .obj 93 (.agg [.ints .u32 8 (List.replicate 8 0)])), (0, .obj 93 (.agg [.ints .u32 8 (adN s x k)]))], 4096, 169⟩) (fun k => 8 - k) 0 (by simp) (by simp [adN, wk, leL, lk, nmT, nmE, nmH, AV.nmIn, AV.nmInL, Ent.nmIn]) ?_
  intro k hk8 K3 hK3
  have hal := adN_len s x hs k
  by_cases hlt8 : k < 8
  · have c1 : (k : Int) < 8 := by omega
    refine W.seqK fun K hK => W.regionK tt_ok ?_
    simp only [decide_true, exOps_nil, exOps_cons, exOp_eq, nx_eq, cur_eq, stepQ, ev, ofV, lk, putT, erA, inB, opt, bnd, req, ret, onQ, ap, binI, binG, binF, intF, true_and, and_self, Nat.reduceEqDiff, Nat.reduceLT, Nat.reduceAdd, if_true, if_false, c1]
    refine hK _ ?_
    clear hK K
    refine W.seqK fun K hK => W.cond (b := true) (by simp only [ev, lk, Nat.reduceEqDiff, if_true, if_false]) (fun _ => W.skip ?_) (fun h => absurd h (by simp))
    rw [thn_normal]
    refine hK _ ?_
    clear hK K
    refine W.seqK fun K hK => W.blockK ?_
    refine W.seqK fun K hK => W.regionK tt_ok ?_
    simp only [exOps_nil, exOps_cons, exOp_eq, nx_eq, cur_eq, stepQ, ev, lk, putT, erA, inB, opt, ret, onQ, ap, true_and, Nat.reduceEqDiff, Nat.reduceLT, Nat.reduceAdd, if_true, if_false]
    refine hK _ ?_
    clear hK K
    refine exD_sound (A := [⟨0, false, [], false⟩, ⟨0, false, [0], false⟩, ⟨0, false, [0, 1], false⟩, ⟨0, false, [], false⟩, ⟨0, false, [3], false⟩, ⟨0, false, [3, 4], false⟩, ⟨0, false, [0, 1, 2, 3, 4, 5], false⟩, ⟨0, false, [0, 1, 2, 3, 4, 5, 6], false⟩, ⟨2, false, [0, 1, 2, 3, 4, 5, 6, 7], false⟩]) mix tt_ok (by kernel_rfl) ?_
    simp only [exOp_eq, exD_nil, exD_cons, nxD_eq, cur_eq, flI, ownB, stepQ, ev, lk, putT, erA, inB, opt, bnd, req, ret, onQ, ap, up, er, AV.isTup, AV.isAgg, binI, binG, binF, intF, Kd.elem, Kd.isInt, ixA, asI, ldP, ldE, ldC, ldS, Kd.agg, comps, csize, takeI, takeC, dropC, stP, stE, stC, stS, thn_normal, inb_normal, and_true, true_and, and_self, Nat.reduceEqDiff, Nat.reduceLT, Nat.reduceLeDiff, Nat.reduceAdd, Nat.reduceSub, Int.toNat_natCast, Nat.zero_add, if_true, if_false, Bool.false_eq_true, reduceCtorEq, Option.bind_some, Option.map_some, tt_66, tt_93, Int.toNat_natCast]
    repeat (refine ⟨by omega, ?_⟩)
    refine hK _ ?_
    refine W.region tt_ok ?_
    simp only [exOps_nil, exOps_cons, exOp_eq, nx_eq, cur_eq, stepQ, ev, ofV, lk, putT, erA, inB, opt, bnd, req, ret, onQ, ap, binI, binG, binF, intF, thn_normal, true_and, and_self, Nat.reduceEqDiff, Nat.reduceLT, Nat.reduceAdd, if_true, if_false, wrap_up k (by omega)]
    refine hK3 _ (k + 1) (by omega) (by omega) ?_
    simp [adN, wk, leL, lk, nmT, nmE, nmH, AV.nmIn, AV.nmInL, Ent.nmIn]
  have hk' : k = 8 := by omega
  subst hk'
  have c1 : ¬ (((8 : Nat) : Int) < 8) := by omega
  refine W.seqK fun K hK => W.regionK tt_ok ?_
  simp only [decide_false, exOps_nil, exOps_cons, exOp_eq, nx_eq, cur_eq, stepQ, ev, ofV, lk, putT, erA, inB, opt, bnd, req, ret, onQ, ap, binI, binG, binF, intF, true_and, and_self, Nat.reduceEqDiff, Nat.reduceLT, Nat.reduceAdd, if_true, if_false, c1]
  refine hK _ ?_
  clear hK K
  refine W.seqK fun K hK => W.cond (b := false) (by simp only [ev, lk, Nat.reduceEqDiff, if_true, if_false]) (fun h => absurd h (by simp)) (fun _ => W.exit ?_)
  simp only [thn_normal, thn_exit, inb_exit, if_true]
  refine hKx _ ?_
  refine W.seqK fun K hK => W.regionK tt_ok ?_
  simp only [exOps_nil, exOps_cons, exOp_eq, nx_eq, cur_eq, stepQ, ev, lk, putT, erA, inB, opt, bnd, req, ret, onQ, ap, up, er, AV.isAgg, ldP, ldE, ldC, ldS, Kd.agg, comps, szL, csize, takeI, takeC, dropC, stP, stE, stC, stS, true_and, and_self, Nat.reduceEqDiff, Nat.reduceLT, Nat.reduceLeDiff, Nat.reduceAdd, Nat.reduceSub, Nat.sub_self, Nat.le_refl, Nat.add_zero, Nat.zero_add, if_true, if_false, reduceCtorEq, Option.bind_some, Option.map_some, List.append_nil, List.nil_append, tt_93]
  refine hK _ ?_
  clear hK K
  refine W.ret ?_
  simp only [fin_ret, finB, resQ, resV, leL, AV.nmIn, AV.nmInL, entsIn, lk, opt, bnd, req, ret, onQ, AV.isTup, ldP, ldE, ldC, ldS, Kd.agg, comps, csize, takeI, takeC, dropC, and_true, true_and, and_self, Nat.reduceEqDiff, Nat.reduceLT, Nat.reduceLeDiff, Nat.reduceSub, Nat.sub_self, Nat.le_refl, Nat.add_zero, if_true, if_false, reduceCtorEq, Option.bind_some, Option.map_some, tt_93]
  rw [hX]
end Go.Proofs.Ytbefcdgjainflaa
