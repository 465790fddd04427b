/- The reference's Sum. -/
import Derived.Test.YtakgcmponelbeaaDoorAgV
-- TT 3 4 5 22 24 45 73
set_option linter.unusedVariables false
set_option linter.unusedSimpArgs false
namespace Go.Proofs.YtakgcmponelbeaaDoor.Tg
open Sx Pl
set_option maxRecDepth 100000
set_option maxHeartbeats 8000000
theorem call34 : Callable Tryd.prog 34 := ⟨_, Tryd.func34, by kernel_rfl, by kernel_rfl⟩
theorem folded_at (X : Nat) (xs : List Int) (Ke : Nat) (hl : xs.length = 40) (hx : Bd 1000000000 xs) (h0 : 0 ≤ num xs ∧ num xs < 115792089237316195423570985008687907853269984665640564039457584007913129639936) (hK : vS (num xs) Ke < tM) (hlt : ∀ k, k < Ke → tM ≤ vS (num xs) k) :
    FnR Tryd.prog G 34 [.lstI .i64 xs] [] (.sl X 1 0 17) [(X, .vec 3 (.ints .i64 (byt (mF Ke) (vS (num xs) Ke))))] := by
  have h2 := (folded_fn xs Ke hl hx h0 hK hlt).rename 32 X
  simpa [AV.map, AV.mapL, swp, enMap, Ent.map, Row.map] using h2
def rI (key m : List Int) : Nat → St
  | 0 => ⟨[(1, .lstI .u8 m), (2, .ptr 0 0 0 1), (4, .ptr 16 0 0 1), (5, .nils), (6, .int .i64 ((0 : Nat) : Int))], [(16, .obj 45 (.agg [.ints .u8 16 (List.replicate 16 0)])), (0, .obj 22 (.agg [.ints .u8 32 key]))], 1024, 183⟩
  | i + 1 => ⟨[(1, .lstI .u8 m), (2, .ptr 0 0 0 1), (4, .ptr 16 0 0 1), (5, .sl 1000 1 0 (i + 1)), (6, .int .i64 ((i + 1 : Nat) : Int))], [(16, .obj 45 (.agg [.ints .u8 16 (List.replicate 16 0)])), (0, .obj 22 (.agg [.ints .u8 32 key])), (1000, .vec 3 (.ints .i64 (rL key (i + 1))))], 1024, 183⟩
theorem sumR_fn (key m : List Int) (hkl : key.length = 32) (hk : Pl.By key) (hm : Pl.By m) (hml : m.length ≤ 4000) :
    FnR Tryd.prog G 26 [.agg [.ints .u8 32 key], .lstI .u8 m] [] (.agg [.ints .u8 16 (sumN key m)]) [] := by
  refine FnR.of_walk (m := 183) (n0 := 0) tt_ok Tryd.func26 rfl rfl (by simp) (by simp [nmH]) ?_
  rw [show Tryd.f26.results.toList = [.cell 4 45] from rfl]
  refine W.seqK fun K hK => W.regionK tt_ok ?_
  simp only [exOps_nil, exOps_cons, exOp_eq, nx_eq, cur_eq, stepQ, ev, lk, parT, putT, erA, inB, opt, req, ret, onQ, ap, up, er, AV.isTup, true_and, and_self, Nat.reduceEqDiff, Nat.reduceLT, Nat.reduceAdd, Nat.zero_add, if_true, if_false, reduceCtorEq, tt_45]
  refine hK _ ?_
  clear hK K
  refine W.seqK fun K hK => W.regionK tt_ok ?_
  simp only [exOps_nil, exOps_cons, exOp_eq, nx_eq, cur_eq, stepQ, ev, ofV, putT, erA, inB, opt, ret, onQ, ap, true_and, Nat.reduceEqDiff, Nat.reduceLT, Nat.reduceAdd, if_false, reduceCtorEq]
  refine hK _ ?_
  clear hK K
  refine W.seqK fun Kz hKz => ?_
  refine W.seqK fun K hK => W.regionK tt_ok ?_
  simp only [exOps_nil, exOps_cons, exOp_eq, nx_eq, cur_eq, stepQ, ev, ofV, putT, erA, inB, opt, ret, onQ, ap, true_and, Nat.reduceEqDiff, Nat.reduceLT, Nat.reduceAdd, if_false, reduceCtorEq]
  refine hK _ ?_
  clear hK K
  refine W.blockK ?_
  refine W.loopS (fun i : Nat => i ≤ 16) (rI key m) (fun i => 16 - i) 0 (by simp) (by simp [wk, leL, lk, nmT, nmE, nmH, AV.nmIn, AV.nmInL, Ent.nmIn, rI]) ?_
  intro i hi K3 hK3
  match i, hi with
  | 0, hi =>
    simp only [rI]
    refine W.seqK fun K hK => ?_
    refine W.seqK fun K hK => W.regionK tt_ok ?_
    simp only [exOps_nil, exOps_cons, exOp_eq, nx_eq, cur_eq, stepQ, ev, ofV, lk, putT, erA, inB, opt, bnd, req, ret, onQ, ap, binG, binF, intF, true_and, and_self, Nat.reduceEqDiff, Nat.reduceLT, Nat.reduceAdd, if_true, if_false]
    refine hK _ ?_
    clear hK K
    refine W.cond (b := decide (((0 : Nat) : Int) < 16)) (by simp only [ev, lk, Nat.reduceEqDiff, if_true, if_false]) (fun hb => W.skip ?_) (fun hb => W.exit ?_)
    · rw [thn_normal]
      have hlt : 0 < 16 := by have := of_decide_eq_true hb; omega
      have hx := getD_by hk (0)
      have hy := yD_ok hk (0)
      have m4 : Int.tmod ((0 : Nat) : Int) 4 = (((0) % 4 : Nat) : Int) := by rw [Int.tmod_eq_emod_of_nonneg (by omega)]; omega
      have m16 : Int.tmod (key.getD (0) 0) 16 = key.getD (0) 0 % 16 := Int.tmod_eq_emod_of_nonneg hx.1
      have y4 : Int.tmod (yD key (0)) 4 = yD key (0) % 4 := Int.tmod_eq_emod_of_nonneg hy.1
      have x1 : IntKind.i64.wrap (key.getD (0) 0) = key.getD (0) 0 := by rw [IntKind.wrap_i64]; omega
      have y5 : IntKind.i64.wrap (yD key (0) - yD key (0) % 4) = yD key (0) - yD key (0) % 4 := by rw [IntKind.wrap_i64]; omega
      refine hK _ ?_
      clear hK K
      refine W.seqK fun Kr hKr => W.blockK ?_
      refine W.seqK fun K hK => W.regionK tt_ok ?_
      simp only [exOps_nil, exOps_cons, exOp_eq, nx_eq, cur_eq, stepQ, ev, lk, putT, erA, inB, opt, bnd, req, ret, onQ, ap, Kd.elem, Kd.isInt, ixA, asI, ldP, ldE, ldC, ldS, Kd.agg, comps, csize, takeI, takeC, dropC, cvQ, and_true, true_and, and_self, Nat.reduceEqDiff, Nat.reduceLT, Nat.reduceLeDiff, Nat.reduceAdd, Nat.reduceSub, Nat.reduceMul, Int.toNat_natCast, Nat.add_zero, if_true, if_false, Bool.false_eq_true, reduceCtorEq, Option.bind_some, Option.map_some, tt_3, tt_5, tt_22, x1]
      repeat (refine ⟨by omega, ?_⟩)
      refine hK _ ?_
      clear hK K
      refine W.joinK ⟨[(7, .int .i64 (yD key (0))), (1, .lstI .u8 m), (2, .ptr 0 0 0 1), (4, .ptr 16 0 0 1), (5, .nils), (6, .int .i64 ((0 : Nat) : Int))], [(16, .obj 45 (.agg [.ints .u8 16 (List.replicate 16 0)])), (0, .obj 22 (.agg [.ints .u8 32 key]))], 2200, 183⟩ (fun Kj hKj => ?_) ?_
      · by_cases h3 : (0) % 4 = 3
        · have e3 : ((((0) % 4 : Nat) : Int) == 3) = true := by rw [h3]; rfl
          have hyd : yD key (0) = key.getD (0) 0 % 16 := by unfold yD; rw [if_pos h3]
          refine W.seqK fun K hK => W.regionK tt_ok ?_
          simp only [exOps_nil, exOps_cons, exOp_eq, nx_eq, cur_eq, stepQ, ev, ofV, lk, putT, erA, inB, opt, bnd, req, ret, onQ, ap, binG, binF, intF, and_true, true_and, and_self, Nat.reduceEqDiff, Nat.reduceLT, Nat.reduceAdd, if_true, if_false, ne_eq, m4, e3]
          repeat (refine ⟨by omega, ?_⟩)
          refine hK _ ?_
          clear hK K
          refine W.cond (b := true) (by simp only [ev, lk, Nat.reduceEqDiff, if_true, if_false]) (fun _ => ?_) (fun h => absurd h (by simp))
          refine W.region tt_ok ?_
          simp only [exOps_nil, exOps_cons, exOp_eq, nx_eq, cur_eq, stepQ, ev, ofV, lk, putT, erA, inB, opt, bnd, req, ret, onQ, ap, binG, binF, intF, thn_normal, and_true, true_and, Nat.reduceEqDiff, Nat.reduceLT, Nat.reduceAdd, if_true, if_false, ne_eq, m16]
          repeat (refine ⟨by omega, ?_⟩)
          refine hKj _ ?_
          rw [hyd]
          simp [wk, leL, lk, nmT, nmE, nmH, AV.nmIn, AV.nmInL, Ent.nmIn]
        · have e3 : ((((0) % 4 : Nat) : Int) == 3) = false := by rw [beq_eq_false_iff_ne]; omega
          have hyd : yD key (0) = key.getD (0) 0 := by unfold yD; rw [if_neg h3]
          refine W.seqK fun K hK => W.regionK tt_ok ?_
          simp only [exOps_nil, exOps_cons, exOp_eq, nx_eq, cur_eq, stepQ, ev, ofV, lk, putT, erA, inB, opt, bnd, req, ret, onQ, ap, binG, binF, intF, and_true, true_and, and_self, Nat.reduceEqDiff, Nat.reduceLT, Nat.reduceAdd, if_true, if_false, ne_eq, m4, e3]
          repeat (refine ⟨by omega, ?_⟩)
          refine hK _ ?_
          clear hK K
          refine W.cond (b := false) (by simp only [ev, lk, Nat.reduceEqDiff, if_true, if_false]) (fun h => absurd h (by simp)) (fun _ => W.skip ?_)
          rw [thn_normal]
          refine hKj _ ?_
          rw [hyd]
          simp [wk, leL, lk, nmT, nmE, nmH, AV.nmIn, AV.nmInL, Ent.nmIn]
      refine W.joinK ⟨[(7, .int .i64 (rD key (0))), (1, .lstI .u8 m), (2, .ptr 0 0 0 1), (4, .ptr 16 0 0 1), (5, .nils), (6, .int .i64 ((0 : Nat) : Int))], [(16, .obj 45 (.agg [.ints .u8 16 (List.replicate 16 0)])), (0, .obj 22 (.agg [.ints .u8 32 key]))], 2500, 183⟩ (fun Kj hKj => ?_) ?_
      · by_cases h4 : 0 = 4
        · have e4 : (((0 : Nat) : Int) == 4) = true := by rw [beq_iff_eq]; omega
          have hrd : rD key (0) = yD key (0) - yD key (0) % 4 := by unfold rD; rw [if_pos (by omega)]
          refine W.seqK fun K hK => W.regionK tt_ok ?_
          simp only [↓gTF, ↓nTF, exOps_nil, exOps_cons, exOp_eq, nx_eq, cur_eq, stepQ, ev, ofV, lk, putT, erA, inB, opt, bnd, req, ret, onQ, ap, binG, binF, intF, pickF, true_and, and_self, Nat.reduceEqDiff, Nat.reduceLT, Nat.reduceAdd, if_true, if_false, List.getElem?_cons_zero, List.getElem?_cons_succ, Option.bind_some, e4]
          repeat (refine ⟨by omega, ?_⟩)
          refine hK _ ?_
          clear hK K
          refine W.cond (b := true) (by simp only [ev, lk, Nat.reduceEqDiff, if_true, if_false]) (fun _ => ?_) (fun h => absurd h (by simp))
          refine W.region tt_ok ?_
          simp only [exOps_nil, exOps_cons, exOp_eq, nx_eq, cur_eq, stepQ, ev, ofV, lk, putT, erA, inB, opt, bnd, req, ret, onQ, ap, binG, binF, intF, thn_normal, and_true, true_and, and_self, Nat.reduceEqDiff, Nat.reduceLT, Nat.reduceAdd, if_true, if_false, ne_eq, y4, y5]
          repeat (refine ⟨by omega, ?_⟩)
          refine hKj _ ?_
          rw [hrd]
          simp [wk, leL, lk, nmT, nmE, nmH, AV.nmIn, AV.nmInL, Ent.nmIn]
        have e4 : (((0 : Nat) : Int) == 4) = false := by rw [beq_eq_false_iff_ne]; omega
        by_cases h8 : 0 = 8
        · have e8 : (((0 : Nat) : Int) == 8) = true := by rw [beq_iff_eq]; omega
          have hrd : rD key (0) = yD key (0) - yD key (0) % 4 := by unfold rD; rw [if_pos (by omega)]
          refine W.seqK fun K hK => W.regionK tt_ok ?_
          simp only [↓gFF, ↓gTF, ↓nFF, ↓nTF, exOps_nil, exOps_cons, exOp_eq, nx_eq, cur_eq, stepQ, ev, ofV, lk, putT, erA, inB, opt, bnd, req, ret, onQ, ap, binG, binF, intF, pickF, and_true, true_and, and_self, Nat.reduceEqDiff, Nat.reduceLT, Nat.reduceAdd, if_true, if_false, List.getElem?_cons_zero, List.getElem?_cons_succ, Option.bind_some, e4, e8]
          repeat (refine ⟨by omega, ?_⟩)
          refine hK _ ?_
          clear hK K
          refine W.cond (b := true) (by simp only [ev, lk, Nat.reduceEqDiff, if_true, if_false]) (fun _ => ?_) (fun h => absurd h (by simp))
          refine W.region tt_ok ?_
          simp only [exOps_nil, exOps_cons, exOp_eq, nx_eq, cur_eq, stepQ, ev, ofV, lk, putT, erA, inB, opt, bnd, req, ret, onQ, ap, binG, binF, intF, thn_normal, and_true, true_and, and_self, Nat.reduceEqDiff, Nat.reduceLT, Nat.reduceAdd, if_true, if_false, ne_eq, y4, y5]
          repeat (refine ⟨by omega, ?_⟩)
          refine hKj _ ?_
          rw [hrd]
          simp [wk, leL, lk, nmT, nmE, nmH, AV.nmIn, AV.nmInL, Ent.nmIn]
        have e8 : (((0 : Nat) : Int) == 8) = false := by rw [beq_eq_false_iff_ne]; omega
        by_cases h12 : 0 = 12
        · have e12 : (((0 : Nat) : Int) == 12) = true := by rw [beq_iff_eq]; omega
          have hrd : rD key (0) = yD key (0) - yD key (0) % 4 := by unfold rD; rw [if_pos (by omega)]
          refine W.seqK fun K hK => W.regionK tt_ok ?_
          simp only [↓gFF, ↓nFF, exOps_nil, exOps_cons, exOp_eq, nx_eq, cur_eq, stepQ, ev, ofV, lk, putT, erA, inB, opt, bnd, req, ret, onQ, ap, binG, binF, intF, pickF, and_true, true_and, and_self, Nat.reduceEqDiff, Nat.reduceLT, Nat.reduceAdd, if_true, if_false, List.getElem?_cons_zero, List.getElem?_cons_succ, Option.bind_some, e4, e8, e12]
          repeat (refine ⟨by omega, ?_⟩)
          refine hK _ ?_
          clear hK K
          refine W.cond (b := true) (by simp only [ev, lk, Nat.reduceEqDiff, if_true, if_false]) (fun _ => ?_) (fun h => absurd h (by simp))
          refine W.region tt_ok ?_
          simp only [exOps_nil, exOps_cons, exOp_eq, nx_eq, cur_eq, stepQ, ev, ofV, lk, putT, erA, inB, opt, bnd, req, ret, onQ, ap, binG, binF, intF, thn_normal, and_true, true_and, and_self, Nat.reduceEqDiff, Nat.reduceLT, Nat.reduceAdd, if_true, if_false, ne_eq, y4, y5]
          repeat (refine ⟨by omega, ?_⟩)
          refine hKj _ ?_
          rw [hrd]
          simp [wk, leL, lk, nmT, nmE, nmH, AV.nmIn, AV.nmInL, Ent.nmIn]
        · have e12 : (((0 : Nat) : Int) == 12) = false := by rw [beq_eq_false_iff_ne]; omega
          have hrd : rD key (0) = yD key (0) := by unfold rD; rw [if_neg (by omega)]
          refine W.seqK fun K hK => W.regionK tt_ok ?_
          simp only [↓gFF, ↓nFF, exOps_nil, exOps_cons, exOp_eq, nx_eq, cur_eq, stepQ, ev, ofV, lk, putT, erA, inB, opt, bnd, req, ret, onQ, ap, binG, binF, intF, pickF, and_true, true_and, and_self, Nat.reduceEqDiff, Nat.reduceLT, Nat.reduceAdd, if_true, if_false, List.getElem?_cons_zero, List.getElem?_cons_succ, Option.bind_some, e4, e8, e12]
          repeat (refine ⟨by omega, ?_⟩)
          refine hK _ ?_
          clear hK K
          refine W.cond (b := false) (by simp only [ev, lk, Nat.reduceEqDiff, if_true, if_false]) (fun h => absurd h (by simp)) (fun _ => W.skip ?_)
          rw [thn_normal]
          refine hKj _ ?_
          rw [hrd]
          simp [wk, leL, lk, nmT, nmE, nmH, AV.nmIn, AV.nmInL, Ent.nmIn]
      · have hrl := rL_len key (0)
        refine W.region tt_ok ?_
        simp only [exOps_nil, exOps_cons, exOp_eq, exCall_eq, nx_eq, cur_eq, curV_eq, evL, evP, stepQ, ev, lk, putT, erA, inB, opt, bnd, req, ret, onQ, ap, up, er, AV.isTup, AV.isAgg, intsOf, Kd.agg, comps, szL, csize, takeI, takeC, dropC, stC, stS, bltQ, bltV, appQ, appV, srcQ, Row.len, Row.sz, Row.take, Row.drop, Ent.row, Row.lst, bldA, bslQ, zeroCs, cellsRow, thn_normal, inb_normal, and_true, true_and, and_self, and_false, Nat.reduceEqDiff, Nat.reduceLT, Nat.reduceLeDiff, Nat.reduceAdd, Nat.reduceSub, Nat.reduceMul, Nat.sub_self, Nat.le_refl, Nat.add_zero, Nat.zero_add, if_true, if_false, Bool.false_eq_true, reduceCtorEq, ne_eq, not_false_eq_true, Option.bind_some, Option.map_some, List.append_nil, List.nil_append, List.cons_append, tt_3, tt_73, show List.replicate 1 (0 : Int) = [0] from rfl, List.set_cons_zero, List.length_cons, List.length_nil, List.drop_zero, List.take_succ_cons, List.take_zero, Nat.one_ne_zero, Nat.zero_add]
        repeat (refine ⟨by omega, ?_⟩)
        refine Or.inl ?_
        refine hKr _ ?_
        clear hKr Kr
        refine W.region tt_ok ?_
        simp only [exOps_nil, exOps_cons, exOp_eq, nx_eq, cur_eq, stepQ, ev, ofV, lk, putT, erA, inB, opt, bnd, req, ret, onQ, ap, binG, binF, intF, thn_normal, true_and, and_self, Nat.reduceEqDiff, Nat.reduceLT, Nat.reduceAdd, Nat.zero_add, if_true, if_false, wrap_up 0 (by omega)]
        refine hK3 _ 1 2548 1000 (by omega) (by omega) ⟨⟨by simp [Nm, lk], by simp [Nm, lk]⟩, by simp, by simp⟩ ?_
        simp [St.swap, tmMap, enMap, swp, AV.map, AV.mapL, Ent.map, Row.map, wk, leL, lk, nmT, nmE, nmH, AV.nmIn, AV.nmInL, Ent.nmIn, Row.nmIn, rI, rL]
    · exfalso
      have := of_decide_eq_false hb
      omega
  | i + 1, hi =>
    simp only [rI]
    refine W.seqK fun K hK => ?_
    refine W.seqK fun K hK => W.regionK tt_ok ?_
    simp only [exOps_nil, exOps_cons, exOp_eq, nx_eq, cur_eq, stepQ, ev, ofV, lk, putT, erA, inB, opt, bnd, req, ret, onQ, ap, binG, binF, intF, true_and, and_self, Nat.reduceEqDiff, Nat.reduceLT, Nat.reduceAdd, if_true, if_false]
    refine hK _ ?_
    clear hK K
    refine W.cond (b := decide (((i + 1 : Nat) : Int) < 16)) (by simp only [ev, lk, Nat.reduceEqDiff, if_true, if_false]) (fun hb => W.skip ?_) (fun hb => W.exit ?_)
    · rw [thn_normal]
      have hlt : i + 1 < 16 := by have := of_decide_eq_true hb; omega
      have hx := getD_by hk (i + 1)
      have hy := yD_ok hk (i + 1)
      have m4 : Int.tmod ((i + 1 : Nat) : Int) 4 = (((i + 1) % 4 : Nat) : Int) := by rw [Int.tmod_eq_emod_of_nonneg (by omega)]; omega
      have m16 : Int.tmod (key.getD (i + 1) 0) 16 = key.getD (i + 1) 0 % 16 := Int.tmod_eq_emod_of_nonneg hx.1
      have y4 : Int.tmod (yD key (i + 1)) 4 = yD key (i + 1) % 4 := Int.tmod_eq_emod_of_nonneg hy.1
      have x1 : IntKind.i64.wrap (key.getD (i + 1) 0) = key.getD (i + 1) 0 := by rw [IntKind.wrap_i64]; omega
      have y5 : IntKind.i64.wrap (yD key (i + 1) - yD key (i + 1) % 4) = yD key (i + 1) - yD key (i + 1) % 4 := by rw [IntKind.wrap_i64]; omega
      refine hK _ ?_
      clear hK K
      refine W.seqK fun Kr hKr => W.blockK ?_
      refine W.seqK fun K hK => W.regionK tt_ok ?_
      simp only [exOps_nil, exOps_cons, exOp_eq, nx_eq, cur_eq, stepQ, ev, lk, putT, erA, inB, opt, bnd, req, ret, onQ, ap, Kd.elem, Kd.isInt, ixA, asI, ldP, ldE, ldC, ldS, Kd.agg, comps, csize, takeI, takeC, dropC, cvQ, and_true, true_and, and_self, Nat.reduceEqDiff, Nat.reduceLT, Nat.reduceLeDiff, Nat.reduceAdd, Nat.reduceSub, Int.toNat_natCast, Nat.zero_add, if_true, if_false, Bool.false_eq_true, reduceCtorEq, Option.bind_some, Option.map_some, tt_3, tt_5, tt_22, x1]
      repeat (refine ⟨by omega, ?_⟩)
      refine hK _ ?_
      clear hK K
      refine W.joinK ⟨[(7, .int .i64 (yD key (i + 1))), (1, .lstI .u8 m), (2, .ptr 0 0 0 1), (4, .ptr 16 0 0 1), (5, .sl 1000 1 0 (i + 1)), (6, .int .i64 ((i + 1 : Nat) : Int))], [(16, .obj 45 (.agg [.ints .u8 16 (List.replicate 16 0)])), (0, .obj 22 (.agg [.ints .u8 32 key])), (1000, .vec 3 (.ints .i64 (rL key (i + 1))))], 2200, 183⟩ (fun Kj hKj => ?_) ?_
      · by_cases h3 : (i + 1) % 4 = 3
        · have e3 : ((((i + 1) % 4 : Nat) : Int) == 3) = true := by rw [h3]; rfl
          have hyd : yD key (i + 1) = key.getD (i + 1) 0 % 16 := by unfold yD; rw [if_pos h3]
          refine W.seqK fun K hK => W.regionK tt_ok ?_
          simp only [exOps_nil, exOps_cons, exOp_eq, nx_eq, cur_eq, stepQ, ev, ofV, lk, putT, erA, inB, opt, bnd, req, ret, onQ, ap, binG, binF, intF, and_true, true_and, and_self, Nat.reduceEqDiff, Nat.reduceLT, Nat.reduceAdd, if_true, if_false, ne_eq, m4, e3]
          repeat (refine ⟨by omega, ?_⟩)
          refine hK _ ?_
          clear hK K
          refine W.cond (b := true) (by simp only [ev, lk, Nat.reduceEqDiff, if_true, if_false]) (fun _ => ?_) (fun h => absurd h (by simp))
          refine W.region tt_ok ?_
          simp only [exOps_nil, exOps_cons, exOp_eq, nx_eq, cur_eq, stepQ, ev, ofV, lk, putT, erA, inB, opt, bnd, req, ret, onQ, ap, binG, binF, intF, thn_normal, and_true, true_and, Nat.reduceEqDiff, Nat.reduceLT, Nat.reduceAdd, if_true, if_false, ne_eq, m16]
          repeat (refine ⟨by omega, ?_⟩)
          refine hKj _ ?_
          rw [hyd]
          simp [wk, leL, lk, nmT, nmE, nmH, AV.nmIn, AV.nmInL, Ent.nmIn, Row.nmIn]
        · have e3 : ((((i + 1) % 4 : Nat) : Int) == 3) = false := by rw [beq_eq_false_iff_ne]; omega
          have hyd : yD key (i + 1) = key.getD (i + 1) 0 := by unfold yD; rw [if_neg h3]
          refine W.seqK fun K hK => W.regionK tt_ok ?_
          simp only [exOps_nil, exOps_cons, exOp_eq, nx_eq, cur_eq, stepQ, ev, ofV, lk, putT, erA, inB, opt, bnd, req, ret, onQ, ap, binG, binF, intF, and_true, true_and, and_self, Nat.reduceEqDiff, Nat.reduceLT, Nat.reduceAdd, if_true, if_false, ne_eq, m4, e3]
          repeat (refine ⟨by omega, ?_⟩)
          refine hK _ ?_
          clear hK K
          refine W.cond (b := false) (by simp only [ev, lk, Nat.reduceEqDiff, if_true, if_false]) (fun h => absurd h (by simp)) (fun _ => W.skip ?_)
          rw [thn_normal]
          refine hKj _ ?_
          rw [hyd]
          simp [wk, leL, lk, nmT, nmE, nmH, AV.nmIn, AV.nmInL, Ent.nmIn, Row.nmIn]
      refine W.joinK ⟨[(7, .int .i64 (rD key (i + 1))), (1, .lstI .u8 m), (2, .ptr 0 0 0 1), (4, .ptr 16 0 0 1), (5, .sl 1000 1 0 (i + 1)), (6, .int .i64 ((i + 1 : Nat) : Int))], [(16, .obj 45 (.agg [.ints .u8 16 (List.replicate 16 0)])), (0, .obj 22 (.agg [.ints .u8 32 key])), (1000, .vec 3 (.ints .i64 (rL key (i + 1))))], 2500, 183⟩ (fun Kj hKj => ?_) ?_
      · by_cases h4 : i + 1 = 4
        · have e4 : (((i + 1 : Nat) : Int) == 4) = true := by rw [beq_iff_eq]; omega
          have hrd : rD key (i + 1) = yD key (i + 1) - yD key (i + 1) % 4 := by unfold rD; rw [if_pos (by omega)]
          refine W.seqK fun K hK => W.regionK tt_ok ?_
          simp only [↓gTF, ↓nTF, exOps_nil, exOps_cons, exOp_eq, nx_eq, cur_eq, stepQ, ev, ofV, lk, putT, erA, inB, opt, bnd, req, ret, onQ, ap, binG, binF, intF, pickF, true_and, and_self, Nat.reduceEqDiff, Nat.reduceLT, Nat.reduceAdd, if_true, if_false, List.getElem?_cons_zero, List.getElem?_cons_succ, Option.bind_some, e4]
          repeat (refine ⟨by omega, ?_⟩)
          refine hK _ ?_
          clear hK K
          refine W.cond (b := true) (by simp only [ev, lk, Nat.reduceEqDiff, if_true, if_false]) (fun _ => ?_) (fun h => absurd h (by simp))
          refine W.region tt_ok ?_
          simp only [exOps_nil, exOps_cons, exOp_eq, nx_eq, cur_eq, stepQ, ev, ofV, lk, putT, erA, inB, opt, bnd, req, ret, onQ, ap, binG, binF, intF, thn_normal, and_true, true_and, and_self, Nat.reduceEqDiff, Nat.reduceLT, Nat.reduceAdd, if_true, if_false, ne_eq, y4, y5]
          repeat (refine ⟨by omega, ?_⟩)
          refine hKj _ ?_
          rw [hrd]
          simp [wk, leL, lk, nmT, nmE, nmH, AV.nmIn, AV.nmInL, Ent.nmIn, Row.nmIn]
        have e4 : (((i + 1 : Nat) : Int) == 4) = false := by rw [beq_eq_false_iff_ne]; omega
        by_cases h8 : i + 1 = 8
        · have e8 : (((i + 1 : Nat) : Int) == 8) = true := by rw [beq_iff_eq]; omega
          have hrd : rD key (i + 1) = yD key (i + 1) - yD key (i + 1) % 4 := by unfold rD; rw [if_pos (by omega)]
          refine W.seqK fun K hK => W.regionK tt_ok ?_
          simp only [↓gFF, ↓gTF, ↓nFF, ↓nTF, exOps_nil, exOps_cons, exOp_eq, nx_eq, cur_eq, stepQ, ev, ofV, lk, putT, erA, inB, opt, bnd, req, ret, onQ, ap, binG, binF, intF, pickF, and_true, true_and, and_self, Nat.reduceEqDiff, Nat.reduceLT, Nat.reduceAdd, if_true, if_false, List.getElem?_cons_zero, List.getElem?_cons_succ, Option.bind_some, e4, e8]
          repeat (refine ⟨by omega, ?_⟩)
          refine hK _ ?_
          clear hK K
          refine W.cond (b := true) (by simp only [ev, lk, Nat.reduceEqDiff, if_true, if_false]) (fun _ => ?_) (fun h => absurd h (by simp))
          refine W.region tt_ok ?_
          simp only [exOps_nil, exOps_cons, exOp_eq, nx_eq, cur_eq, stepQ, ev, ofV, lk, putT, erA, inB, opt, bnd, req, ret, onQ, ap, binG, binF, intF, thn_normal, and_true, true_and, and_self, Nat.reduceEqDiff, Nat.reduceLT, Nat.reduceAdd, if_true, if_false, ne_eq, y4, y5]
          repeat (refine ⟨by omega, ?_⟩)
          refine hKj _ ?_
          rw [hrd]
          simp [wk, leL, lk, nmT, nmE, nmH, AV.nmIn, AV.nmInL, Ent.nmIn, Row.nmIn]
        have e8 : (((i + 1 : Nat) : Int) == 8) = false := by rw [beq_eq_false_iff_ne]; omega
        by_cases h12 : i + 1 = 12
        · have e12 : (((i + 1 : Nat) : Int) == 12) = true := by rw [beq_iff_eq]; omega
          have hrd : rD key (i + 1) = yD key (i + 1) - yD key (i + 1) % 4 := by unfold rD; rw [if_pos (by omega)]
          refine W.seqK fun K hK => W.regionK tt_ok ?_
          simp only [↓gFF, ↓nFF, exOps_nil, exOps_cons, exOp_eq, nx_eq, cur_eq, stepQ, ev, ofV, lk, putT, erA, inB, opt, bnd, req, ret, onQ, ap, binG, binF, intF, pickF, and_true, true_and, and_self, Nat.reduceEqDiff, Nat.reduceLT, Nat.reduceAdd, if_true, if_false, List.getElem?_cons_zero, List.getElem?_cons_succ, Option.bind_some, e4, e8, e12]
          repeat (refine ⟨by omega, ?_⟩)
          refine hK _ ?_
          clear hK K
          refine W.cond (b := true) (by simp only [ev, lk, Nat.reduceEqDiff, if_true, if_false]) (fun _ => ?_) (fun h => absurd h (by simp))
          refine W.region tt_ok ?_
          simp only [exOps_nil, exOps_cons, exOp_eq, nx_eq, cur_eq, stepQ, ev, ofV, lk, putT, erA, inB, opt, bnd, req, ret, onQ, ap, binG, binF, intF, thn_normal, and_true, true_and, and_self, Nat.reduceEqDiff, Nat.reduceLT, Nat.reduceAdd, if_true, if_false, ne_eq, y4, y5]
          repeat (refine ⟨by omega, ?_⟩)
          refine hKj _ ?_
          rw [hrd]
          simp [wk, leL, lk, nmT, nmE, nmH, AV.nmIn, AV.nmInL, Ent.nmIn, Row.nmIn]
        · have e12 : (((i + 1 : Nat) : Int) == 12) = false := by rw [beq_eq_false_iff_ne]; omega
          have hrd : rD key (i + 1) = yD key (i + 1) := by unfold rD; rw [if_neg (by omega)]
          refine W.seqK fun K hK => W.regionK tt_ok ?_
          simp only [↓gFF, ↓nFF, exOps_nil, exOps_cons, exOp_eq, nx_eq, cur_eq, stepQ, ev, ofV, lk, putT, erA, inB, opt, bnd, req, ret, onQ, ap, binG, binF, intF, pickF, and_true, true_and, and_self, Nat.reduceEqDiff, Nat.reduceLT, Nat.reduceAdd, if_true, if_false, List.getElem?_cons_zero, List.getElem?_cons_succ, Option.bind_some, e4, e8, e12]
          repeat (refine ⟨by omega, ?_⟩)
          refine hK _ ?_
          clear hK K
          refine W.cond (b := false) (by simp only [ev, lk, Nat.reduceEqDiff, if_true, if_false]) (fun h => absurd h (by simp)) (fun _ => W.skip ?_)
          rw [thn_normal]
          refine hKj _ ?_
          rw [hrd]
          simp [wk, leL, lk, nmT, nmE, nmH, AV.nmIn, AV.nmInL, Ent.nmIn, Row.nmIn]
      · have hrl := rL_len key (i + 1)
        refine W.region tt_ok ?_
        simp only [exOps_nil, exOps_cons, exOp_eq, exCall_eq, nx_eq, cur_eq, evL, evP, stepQ, ev, lk, putT, erA, inB, opt, bnd, req, ret, onQ, ap, up, er, AV.isTup, AV.isAgg, intsOf, Kd.agg, comps, szL, csize, takeI, takeC, dropC, stC, stS, bltQ, bltV, appQ, appV, srcQ, Row.len, Row.sz, Row.take, Row.drop, Row.app, Ent.row, bldA, bslQ, zeroCs, cellsRow, thn_normal, inb_normal, and_true, true_and, and_self, and_false, or_false, Nat.reduceEqDiff, Nat.reduceLT, Nat.reduceLeDiff, Nat.reduceAdd, Nat.reduceSub, Nat.reduceMul, Nat.sub_self, Nat.le_refl, Nat.add_zero, Nat.zero_add, if_true, if_false, Bool.false_eq_true, reduceCtorEq, Option.bind_some, Option.map_some, List.append_nil, List.nil_append, List.cons_append, tt_3, tt_73, hrl, show List.replicate 1 (0 : Int) = [0] from rfl, List.set_cons_zero, List.length_cons, List.length_nil, List.drop_zero, List.take_succ_cons, List.take_zero, Nat.one_ne_zero, Nat.zero_add]
        repeat (refine ⟨by omega, ?_⟩)
        refine hKr _ ?_
        clear hKr Kr
        refine W.region tt_ok ?_
        simp only [exOps_nil, exOps_cons, exOp_eq, nx_eq, cur_eq, stepQ, ev, ofV, lk, putT, erA, inB, opt, bnd, req, ret, onQ, ap, binG, binF, intF, thn_normal, true_and, and_self, Nat.reduceEqDiff, Nat.reduceLT, Nat.reduceAdd, if_true, if_false, wrap_up (i + 1) (by omega)]
        have hxt : List.take (i + 1) (rL key (i + 1)) = rL key (i + 1) := List.take_of_length_le (by rw [hrl]; exact Nat.le_refl _)
        rw [hxt]
        refine hK3 _ (i + 2) 2548 1000 (by omega) (by omega) ⟨⟨by simp [Nm, lk], by simp [Nm, lk]⟩, by simp, by simp⟩ ?_
        simp [St.swap, tmMap, enMap, swp, AV.map, AV.mapL, Ent.map, Row.map, wk, leL, lk, nmT, nmE, nmH, AV.nmIn, AV.nmInL, Ent.nmIn, Row.nmIn, rI, rL]
    · simp only [thn_normal, thn_exit, inb_exit, if_true]
      clear hK K
      have hi16 : i = 15 := by have := of_decide_eq_false hb; omega
      subst hi16
      refine hKz _ ?_
      clear hKz Kz hK3 K3
      have hrl := rL_len key 16
      refine W.seqK fun K hK => W.regionK tt_ok ?_
      simp only [exOps_nil, exOps_cons, exOp_eq, nx_eq, cur_eq, stepQ, ev, ofV, lk, putT, erA, inB, opt, req, ret, onQ, ap, up, er, intsOf, Row.len, Row.sz, Row.take, mkQ, zeroCs, cellsRow, and_true, true_and, Nat.reduceEqDiff, Nat.reduceLT, Nat.reduceAdd, Int.reduceLE, Int.reduceToNat, if_true, if_false, reduceCtorEq, Option.map_some, List.append_nil, tt_3, tt_73]
      refine ⟨⟨by omega, List.length_replicate⟩, ?_⟩
      rw [show List.take 17 (List.replicate 17 (0 : Int)) = byt 17 0 from rfl]
      refine hK _ ?_
      clear hK K
      refine W.seqK fun Kz hKz => ?_
      refine W.seqK fun K hK => W.regionK tt_ok ?_
      simp only [exOps_nil, exOps_cons, exOp_eq, nx_eq, cur_eq, stepQ, ev, ofV, putT, erA, inB, opt, ret, onQ, ap, true_and, Nat.reduceEqDiff, Nat.reduceLT, Nat.reduceAdd, if_false]
      refine hK _ ?_
      clear hK K
      refine W.blockK ?_
      refine W.loopS (fun q : Nat => q ≤ (m.length + 15) / 16) (fun q => ⟨[(1, .lstI .u8 m), (2, .ptr 0 0 0 1), (4, .ptr 16 0 0 1), (5, .sl 1000 1 0 16), (8, .sl 1056 1 0 17), (9, .int .i64 ((16 * q : Nat) : Int))], [(16, .obj 45 (.agg [.ints .u8 16 (List.replicate 16 0)])), (0, .obj 22 (.agg [.ints .u8 32 key])), (1000, .vec 3 (.ints .i64 (rL key 16))), (1056, .vec 3 (.ints .i64 (byt (nM key m q) (uN key m q))))], 2000, 183⟩) (fun q => (m.length + 15) / 16 - q) 0 (by simp) (by simp [wk, leL, lk, nmT, nmE, nmH, AV.nmIn, AV.nmInL, Ent.nmIn, Row.nmIn, nM, uN]) ?_
      intro q hq K3 hK3
      refine W.seqK fun K hK => ?_
      refine W.seqK fun K hK => W.regionK tt_ok ?_
      simp only [exOps_nil, exOps_cons, exOp_eq, exCall_eq, nx_eq, cur_eq, evL, stepQ, ev, lk, putT, erA, inB, opt, bnd, req, ret, onQ, ap, binG, binF, intF, bltQ, bltV, lenF, true_and, and_self, or_false, Nat.reduceEqDiff, Nat.reduceLT, Nat.reduceAdd, if_true, if_false, List.getElem?_cons_zero, Option.bind_some, Option.map_some, tt_24]
      refine hK _ ?_
      clear hK K
      refine W.cond (b := decide (((16 * q : Nat) : Int) < m.length)) (by simp only [ev, lk, Nat.reduceEqDiff, if_true, if_false]) (fun hb => W.skip ?_) (fun hb => W.exit ?_)
      · rw [thn_normal]
        have hlt : 16 * q < m.length := by have := of_decide_eq_true hb; omega
        obtain ⟨hu, hp, _⟩ := uN_ok hk hkl hm q
        have hnm := nM_ok key m q
        have ha1 : IntKind.i64.wrap (((16 * q : Nat) : Int) + 16) = ((16 * q + 16 : Nat) : Int) := by rw [IntKind.wrap_i64]; omega
        have hmin : (if ((16 * q + 16 : Nat) : Int) < (m.length : Int) then ((16 * q + 16 : Nat) : Int) else (m.length : Int)) = ((min (16 * q + 16) m.length : Nat) : Int) := by
          split <;> omega
        have hmin2 : (if (m.length : Int) < ((16 * q + 16 : Nat) : Int) then (m.length : Int) else ((16 * q + 16 : Nat) : Int)) = ((min (16 * q + 16) m.length : Nat) : Int) := by
          split <;> omega
        obtain ⟨e, he⟩ : ∃ e, min (16 * q + 16) m.length = 16 * q + e := ⟨min (16 * q + 16) m.length - 16 * q, by omega⟩
        have he16 : e ≤ 16 := by omega
        have hem : e = min (m.drop (16 * q)).length 16 := by rw [List.length_drop]; omega
        rw [he] at hmin hmin2
        have htk : List.take 17 (byt (nM key m q) (uN key m q)) = byt 17 (uN key m q) := by
          obtain ⟨t, ht⟩ : ∃ t, nM key m q = 17 + t := ⟨nM key m q - 17, by omega⟩
          rw [ht, byt_app, List.take_append_of_le_length (by rw [byt_len]; exact Nat.le_refl _), List.take_of_length_le (by rw [byt_len]; exact Nat.le_refl _)]
        have hnl := byt_len (nM key m q) (uN key m q)
        have hl17 := byt_len 17 (uN key m q)
        refine hK _ ?_
        clear hK K
        refine W.seqK fun Kr hKr => W.blockK ?_
        refine W.seqK fun K hK => W.regionK tt_ok ?_
        simp only [exOps_nil, exOps_cons, exOp_eq, exCall_eq, nx_eq, cur_eq, evL, stepQ, ev, ofV, lk, putT, erA, inB, opt, bnd, req, ret, onQ, ap, binG, binF, intF, bltQ, bltV, lenF, true_and, and_self, or_false, Nat.reduceEqDiff, Nat.reduceLT, Nat.reduceAdd, if_true, if_false, List.getElem?_cons_zero, Option.bind_some, Option.map_some, tt_24, ha1, hmin2]
        repeat (refine ⟨by omega, ?_⟩)
        refine hK _ ?_
        clear hK K
        refine W.seqK fun K hK => W.regionK tt_ok ?_
        simp only [exOps_nil, exOps_cons, exOp_eq, exCall_eq, nx_eq, cur_eq, evL, evP, stepQ, ev, lk, putT, erA, inB, opt, bnd, req, ret, onQ, ap, up, er, intsOf, bltQ, bltV, appQ, appV, srcQ, Row.len, Row.sz, Row.take, Row.drop, Row.app, Ent.row, bldA, bslQ, zeroCs, cellsRow, and_true, true_and, and_self, or_false, Nat.reduceEqDiff, Nat.reduceLT, Nat.reduceLeDiff, Nat.reduceAdd, Nat.reduceMul, Nat.le_refl, Nat.zero_le, Nat.zero_add, if_true, if_false, reduceCtorEq, Option.bind_some, Option.map_some, List.append_nil, List.nil_append, tt_3, tt_73, List.drop_zero, htk, hl17, List.take_zero, List.nil_append, List.length_replicate]
        repeat (refine ⟨by omega, ?_⟩)
        refine hK _ ?_
        clear hK K
        refine W.seqK fun Kz2 hKz2 => ?_
        refine W.seqK fun K hK => W.regionK tt_ok ?_
        simp only [exOps_nil, exOps_cons, exOp_eq, nx_eq, cur_eq, stepQ, ev, lk, putT, erA, inB, opt, ret, onQ, ap, true_and, Nat.reduceEqDiff, Nat.reduceLT, Nat.reduceAdd, if_true, if_false]
        refine hK _ ?_
        clear hK K
        refine W.blockK ?_
        refine W.loopK (fun j : Nat => j ≤ e) (fun j => ⟨[(1, .lstI .u8 m), (2, .ptr 0 0 0 1), (4, .ptr 16 0 0 1), (5, .sl 1000 1 0 16), (9, .int .i64 ((16 * q : Nat) : Int)), (10, .int .i64 ((16 * q + e : Nat) : Int)), (11, .sl 2192 1 0 17), (12, .int .i64 ((16 * q + j : Nat) : Int))], [(16, .obj 45 (.agg [.ints .u8 16 (List.replicate 16 0)])), (0, .obj 22 (.agg [.ints .u8 32 key])), (1000, .vec 3 (.ints .i64 (rL key 16))), (2192, .vec 3 (.ints .i64 (sI (byt 17 (uN key m q)) m (16 * q) j)))], 3000, 183⟩) (fun j => e - j) 0 (by omega) (by simp [wk, leL, lk, nmT, nmE, nmH, AV.nmIn, AV.nmInL, Ent.nmIn, Row.nmIn, sI]) ?_
        · intro j hj K4 hK4
          refine W.seqK fun K hK => ?_
          refine W.seqK fun K hK => W.regionK tt_ok ?_
          simp only [exOps_nil, exOps_cons, exOp_eq, nx_eq, cur_eq, stepQ, ev, lk, putT, erA, inB, opt, bnd, req, ret, onQ, ap, binG, binF, intF, true_and, and_self, Nat.reduceEqDiff, Nat.reduceLT, Nat.reduceAdd, if_true, if_false]
          refine hK _ ?_
          clear hK K
          refine W.cond (b := decide (((16 * q + j : Nat) : Int) < ((16 * q + e : Nat) : Int))) (by simp only [ev, lk, Nat.reduceEqDiff, if_true, if_false]) (fun hb => W.skip ?_) (fun hb => W.exit ?_)
          · rw [thn_normal]
            have hlt2 : j < e := by have := of_decide_eq_true hb; omega
            have hmb := getD_by hm (16 * q + j)
            have hsl := sI_len (byt 17 (uN key m q)) m (16 * q) j
            rw [hl17] at hsl
            have hsb := sI_bd (o := 16 * q) (byt_bd 17 (uN key m q)) (getD_by hm) j j
            rw [if_neg (by omega)] at hsb
            have f1 : IntKind.i64.wrap (((16 * q + j : Nat) : Int) - ((16 * q : Nat) : Int)) = (j : Int) := by rw [IntKind.wrap_i64]; omega
            have f2 : IntKind.i64.wrap (m.getD (16 * q + j) 0) = m.getD (16 * q + j) 0 := by rw [IntKind.wrap_i64]; omega
            have f3 : IntKind.i64.wrap ((sI (byt 17 (uN key m q)) m (16 * q) j).getD j 0 + m.getD (16 * q + j) 0) = (sI (byt 17 (uN key m q)) m (16 * q) j).getD j 0 + m.getD (16 * q + j) 0 := by rw [IntKind.wrap_i64]; omega
            refine hK _ ?_
            clear hK K
            refine W.seqK fun Kr2 hKr2 => W.blockK ?_
            refine W.seqK fun K hK => W.regionK tt_ok ?_
            simp only [exOps_nil, exOps_cons, exOp_eq, nx_eq, cur_eq, stepQ, ev, lk, putT, erA, inB, opt, bnd, req, ret, onQ, ap, binG, binF, intF, true_and, and_self, Nat.reduceEqDiff, Nat.reduceLT, Nat.reduceAdd, if_true, if_false, f1]
            repeat (refine ⟨by omega, ?_⟩)
            refine hK _ ?_
            clear hK K
            refine exD_sound (A := [⟨0, false, []⟩, ⟨0, false, []⟩, ⟨0, false, []⟩, ⟨0, false, []⟩, ⟨0, false, [2, 3]⟩, ⟨0, false, [2, 3, 4]⟩, ⟨0, false, []⟩, ⟨0, false, []⟩, ⟨0, false, [6, 7]⟩, ⟨0, false, [6, 7, 8]⟩, ⟨0, false, [6, 7, 8, 9]⟩, ⟨0, false, [2, 3, 4, 5, 6, 7, 8, 9, 10]⟩, ⟨0, false, [0, 1, 2, 3, 4, 5, 6, 7, 8, 9, 10, 11]⟩, ⟨2, false, [0, 1, 2, 3, 4, 5, 6, 7, 8, 9, 10, 11, 12]⟩]) mix tt_ok (by kernel_rfl) ?_
            simp only [exOp_eq, exD_nil, exD_cons, nxD_eq, cur_eq, flI, ownB, stepQ, ev, lk, putT, erA, inB, opt, bnd, req, ret, onQ, ap, up, er, binG, binF, intF, Kd.elem, ixA, asI, ldP, ldE, ldC, ldS, Kd.agg, comps, csize, takeI, takeC, dropC, stP, stE, cvQ, thn_normal, inb_normal, and_true, true_and, and_self, Nat.reduceEqDiff, Nat.reduceLT, Nat.reduceLeDiff, Nat.reduceAdd, Nat.reduceSub, Nat.sub_self, Int.toNat_natCast, Nat.le_refl, Nat.zero_add, if_true, if_false, Bool.false_eq_true, reduceCtorEq, Option.bind_some, Option.map_some, tt_3, tt_5, tt_24, tt_73, f2, f3, hsl]
            repeat (refine ⟨by omega, ?_⟩)
            refine hKr2 _ ?_
            clear hKr2 Kr2
            refine W.region tt_ok ?_
            simp only [exOps_nil, exOps_cons, exOp_eq, nx_eq, cur_eq, stepQ, ev, ofV, lk, putT, erA, inB, opt, bnd, req, ret, onQ, ap, binG, binF, intF, thn_normal, true_and, and_self, Nat.reduceEqDiff, Nat.reduceLT, Nat.reduceAdd, if_true, if_false, wrap_up (16 * q + j) (by omega)]
            refine hK4 _ (j + 1) (by omega) (by omega) ?_
            simp only [show 16 * q + (j + 1) = 16 * q + j + 1 from rfl]
            simp [wk, leL, lk, nmT, nmE, nmH, AV.nmIn, AV.nmInL, Ent.nmIn, Row.nmIn, sI]
          · simp only [thn_normal, thn_exit, inb_exit, Nat.reduceEqDiff, if_true, if_false]
            clear hK K
            have hje : j = e := by have := of_decide_eq_false hb; omega
            subst hje
            refine hKz2 _ ?_
            clear hKz2 Kz2 hK4 K4
            have hsl := sI_len (byt 17 (uN key m q)) m (16 * q) j
            rw [hl17] at hsl
            have hsb := sI_bd (o := 16 * q) (byt_bd 17 (uN key m q)) (getD_by hm) j
            have hsn := sI_num (byt 17 (uN key m q)) m (16 * q) j (by omega)
            have hsj := hsb j
            rw [if_neg (by omega)] at hsj
            have f1 : IntKind.i64.wrap (((16 * q + j : Nat) : Int) - ((16 * q : Nat) : Int)) = (j : Int) := by rw [IntKind.wrap_i64]; omega
            have f3 : IntKind.i64.wrap ((sI (byt 17 (uN key m q)) m (16 * q) j).getD j 0 + 1) = (sI (byt 17 (uN key m q)) m (16 * q) j).getD j 0 + 1 := by rw [IntKind.wrap_i64]; omega
            refine W.seqK fun K hK => W.regionK tt_ok ?_
            simp only [exOps_nil, exOps_cons, exOp_eq, nx_eq, cur_eq, stepQ, ev, lk, putT, erA, inB, opt, bnd, req, ret, onQ, ap, binG, binF, intF, true_and, and_self, Nat.reduceEqDiff, Nat.reduceLT, Nat.reduceAdd, if_true, if_false, f1]
            repeat (refine ⟨by omega, ?_⟩)
            refine hK _ ?_
            clear hK K
            refine W.seqK fun K hK => W.regionK tt_ok ?_
            simp only [exOps_nil, exOps_cons, exOp_eq, nx_eq, cur_eq, stepQ, ev, ofV, lk, putT, erA, inB, opt, bnd, req, ret, onQ, ap, up, er, binG, binF, intF, Kd.elem, ixA, asI, ldP, ldE, Kd.agg, stP, stE, and_true, true_and, and_self, Nat.reduceEqDiff, Nat.reduceLT, Nat.reduceLeDiff, Nat.reduceAdd, Int.toNat_natCast, Nat.zero_add, if_true, if_false, Bool.false_eq_true, reduceCtorEq, tt_3, tt_73, f3, hsl]
            repeat (refine ⟨by omega, ?_⟩)
            obtain ⟨S, hS⟩ : ∃ S, (sI (byt 17 (uN key m q)) m (16 * q) j).set j ((sI (byt 17 (uN key m q)) m (16 * q) j).getD j 0 + 1) = S := ⟨_, rfl⟩
            have hSl : S.length = 17 := by rw [← hS, List.length_set]; exact hsl
            have hSb : Bd 512 S := fun c => by
              rw [← hS]
              by_cases hc : j = c
              · subst hc; rw [getD_set_self (by omega)]; omega
              · rw [getD_set_ne hc]; have := hsb c; split at this <;> omega
            have hSn : num S = uN key m q + bv (m.drop (16 * q)) := by
              rw [← hS, num_set _ _ _ (by omega), hsn, num_byt]
              have e17 : (256 : Int) ^ 17 = 87112285931760246646623899502532662132736 := rfl
              rw [Int.emod_eq_of_lt hu.1 (by rw [e17]; have := hu.2; unfold tM at this; omega)]
              unfold bv
              have : (m.drop (16 * q)).take j = (m.drop (16 * q)).take 16 := by
                rcases Nat.lt_or_ge (m.drop (16 * q)).length 16 with c | c
                · rw [List.take_of_length_le (by omega), List.take_of_length_le (by omega)]
                · rw [show j = 16 by omega]
              rw [this, ← hem]
              omega
            rw [hS]
            refine hK _ ?_
            clear hK K
            refine W.seqK fun K hK => W.regionK tt_ok ?_
            simp only [exOps_nil, exOps_cons, exOp_eq, nx_eq, cur_eq, stepQ, ev, ofV, lk, putT, erA, inB, opt, req, ret, onQ, ap, up, er, intsOf, Row.len, Row.sz, Row.take, mkQ, zeroCs, cellsRow, and_true, true_and, Nat.reduceEqDiff, Nat.reduceLT, Nat.reduceAdd, Int.reduceLE, Int.reduceToNat, if_true, if_false, reduceCtorEq, Option.map_some, List.append_nil, tt_3, tt_73]
            refine ⟨⟨by omega, List.length_replicate⟩, ?_⟩
            rw [show List.take 40 (List.replicate 40 (0 : Int)) = lI S (rL key 16) 0 from rfl]
            have hRb := rL_bd hk 16
            have hll := lI_len S (rL key 16)
            have hlb := lI_bd hSb hRb
            refine hK _ ?_
            clear hK K
            refine W.seqK fun Kz3 hKz3 => ?_
            refine W.seqK fun K hK => W.regionK tt_ok ?_
            simp only [exOps_nil, exOps_cons, exOp_eq, nx_eq, cur_eq, stepQ, ev, ofV, putT, erA, inB, opt, ret, onQ, ap, true_and, Nat.reduceEqDiff, Nat.reduceLT, Nat.reduceAdd, if_false]
            refine hK _ ?_
            clear hK K
            refine W.blockK ?_
            refine W.loopK (fun a : Nat => a ≤ 17) (fun a => ⟨[(1, .lstI .u8 m), (2, .ptr 0 0 0 1), (4, .ptr 16 0 0 1), (5, .sl 1000 1 0 16), (9, .int .i64 ((16 * q : Nat) : Int)), (11, .sl 2192 1 0 17), (15, .sl 3256 1 0 40), (16, .int .i64 a)], [(16, .obj 45 (.agg [.ints .u8 16 (List.replicate 16 0)])), (0, .obj 22 (.agg [.ints .u8 32 key])), (1000, .vec 3 (.ints .i64 (rL key 16))), (2192, .vec 3 (.ints .i64 S)), (3256, .vec 3 (.ints .i64 (lI S (rL key 16) a)))], 4000, 183⟩) (fun a => 17 - a) 0 (by omega) (by simp [wk, leL, lk, nmT, nmE, nmH, AV.nmIn, AV.nmInL, Ent.nmIn, Row.nmIn, lI]) ?_
            · intro a ha K4 hK4
              refine W.seqK fun K hK => ?_
              refine W.seqK fun K hK => W.regionK tt_ok ?_
              simp only [exOps_nil, exOps_cons, exOp_eq, nx_eq, cur_eq, stepQ, ev, ofV, lk, putT, erA, inB, opt, bnd, req, ret, onQ, ap, binG, binF, intF, true_and, and_self, Nat.reduceEqDiff, Nat.reduceLT, Nat.reduceAdd, if_true, if_false]
              refine hK _ ?_
              clear hK K
              refine W.cond (b := decide ((a : Int) < 17)) (by simp only [ev, lk, Nat.reduceEqDiff, if_true, if_false]) (fun hb => W.skip ?_) (fun hb => W.exit ?_)
              · rw [thn_normal]
                have hlta : a < 17 := by have := of_decide_eq_true hb; omega
                refine hK _ ?_
                clear hK K
                refine W.seqK fun Kr2 hKr2 => W.blockK ?_
                refine W.seqK fun K hK => W.regionK tt_ok ?_
                simp only [exOps_nil, exOps_cons, exOp_eq, nx_eq, cur_eq, stepQ, ev, ofV, putT, erA, inB, opt, ret, onQ, ap, true_and, Nat.reduceEqDiff, Nat.reduceLT, Nat.reduceAdd, if_false]
                refine hK _ ?_
                clear hK K
                refine W.blockK ?_
                refine W.loopK (fun c : Nat => c ≤ 16) (fun c => ⟨[(1, .lstI .u8 m), (2, .ptr 0 0 0 1), (4, .ptr 16 0 0 1), (5, .sl 1000 1 0 16), (9, .int .i64 ((16 * q : Nat) : Int)), (11, .sl 2192 1 0 17), (15, .sl 3256 1 0 40), (16, .int .i64 a), (17, .int .i64 c)], [(16, .obj 45 (.agg [.ints .u8 16 (List.replicate 16 0)])), (0, .obj 22 (.agg [.ints .u8 32 key])), (1000, .vec 3 (.ints .i64 (rL key 16))), (2192, .vec 3 (.ints .i64 S)), (3256, .vec 3 (.ints .i64 (lJ (lI S (rL key 16) a) S (rL key 16) a c)))], 5000, 183⟩) (fun c => 16 - c) 0 (by omega) (by simp [wk, leL, lk, nmT, nmE, nmH, AV.nmIn, AV.nmInL, Ent.nmIn, Row.nmIn, lJ]) ?_
                intro c hc K5 hK5
                refine W.seqK fun K hK => ?_
                refine W.seqK fun K hK => W.regionK tt_ok ?_
                simp only [exOps_nil, exOps_cons, exOp_eq, nx_eq, cur_eq, stepQ, ev, ofV, lk, putT, erA, inB, opt, bnd, req, ret, onQ, ap, binG, binF, intF, true_and, and_self, Nat.reduceEqDiff, Nat.reduceLT, Nat.reduceAdd, if_true, if_false]
                refine hK _ ?_
                clear hK K
                refine W.cond (b := decide ((c : Int) < 16)) (by simp only [ev, lk, Nat.reduceEqDiff, if_true, if_false]) (fun hb => W.skip ?_) (fun hb => W.exit ?_)
                · rw [thn_normal]
                  have hltc : c < 16 := by have := of_decide_eq_true hb; omega
                  have hjl := lJ_len (lI S (rL key 16) a) S (rL key 16) a c
                  rw [hll] at hjl
                  have hjb := lJ_bd (i := a) (hlb a) hSb hRb c (a + c)
                  rw [if_neg (by omega)] at hjb
                  have hpb := prod_bd (hSb a) (hRb c)
                  have g1 : IntKind.i64.wrap ((a : Int) + (c : Int)) = ((a + c : Nat) : Int) := by rw [IntKind.wrap_i64]; omega
                  have g2 : IntKind.i64.wrap (S.getD a 0 * (rL key 16).getD c 0) = S.getD a 0 * (rL key 16).getD c 0 := by rw [IntKind.wrap_i64]; omega
                  have g3 : IntKind.i64.wrap ((lJ (lI S (rL key 16) a) S (rL key 16) a c).getD (a + c) 0 + S.getD a 0 * (rL key 16).getD c 0) = (lJ (lI S (rL key 16) a) S (rL key 16) a c).getD (a + c) 0 + S.getD a 0 * (rL key 16).getD c 0 := by rw [IntKind.wrap_i64]; omega
                  refine hK _ ?_
                  clear hK K
                  refine W.seqK fun Kr3 hKr3 => W.blockK ?_
                  refine exD_sound (A := [⟨0, false, []⟩, ⟨0, false, []⟩, ⟨0, false, []⟩, ⟨0, false, [1, 2]⟩, ⟨0, false, []⟩, ⟨0, false, []⟩, ⟨0, false, []⟩, ⟨0, false, [5, 6]⟩, ⟨0, false, [4, 5, 6, 7]⟩, ⟨0, false, [4, 5, 6, 7, 8]⟩, ⟨0, false, []⟩, ⟨0, false, []⟩, ⟨0, false, [10, 11]⟩, ⟨0, false, [10, 11, 12]⟩, ⟨0, false, []⟩, ⟨0, false, []⟩, ⟨0, false, [14, 15]⟩, ⟨0, false, [14, 15, 16]⟩, ⟨0, false, [10, 11, 12, 13, 14, 15, 16, 17]⟩, ⟨0, false, [4, 5, 6, 7, 8, 9, 10, 11, 12, 13, 14, 15, 16, 17, 18]⟩, ⟨0, false, [0, 1, 2, 3, 4, 5, 6, 7, 8, 9, 10, 11, 12, 13, 14, 15, 16, 17, 18, 19]⟩, ⟨2, false, [0, 1, 2, 3, 4, 5, 6, 7, 8, 9, 10, 11, 12, 13, 14, 15, 16, 17, 18, 19, 20]⟩]) mix tt_ok (by kernel_rfl) ?_
                  simp only [exOp_eq, exD_nil, exD_cons, nxD_eq, cur_eq, flI, ownB, stepQ, ev, lk, putT, erA, inB, opt, bnd, req, ret, onQ, ap, up, er, binG, binF, intF, Kd.elem, ixA, asI, ldP, ldE, Kd.agg, stP, stE, thn_normal, inb_normal, and_true, true_and, and_self, Nat.reduceEqDiff, Nat.reduceLT, Nat.reduceLeDiff, Nat.reduceAdd, Int.toNat_natCast, Nat.zero_add, if_true, if_false, Bool.false_eq_true, reduceCtorEq, tt_3, tt_73, g1, g2, g3, hjl, hSl, hrl]
                  repeat (refine ⟨by omega, ?_⟩)
                  refine hKr3 _ ?_
                  clear hKr3 Kr3
                  refine W.region tt_ok ?_
                  simp only [exOps_nil, exOps_cons, exOp_eq, nx_eq, cur_eq, stepQ, ev, ofV, lk, putT, erA, inB, opt, bnd, req, ret, onQ, ap, binG, binF, intF, thn_normal, true_and, and_self, Nat.reduceEqDiff, Nat.reduceLT, Nat.reduceAdd, if_true, if_false, wrap_up c (by omega)]
                  refine hK5 _ (c + 1) (by omega) (by omega) ?_
                  simp [wk, leL, lk, nmT, nmE, nmH, AV.nmIn, AV.nmInL, Ent.nmIn, Row.nmIn, lJ]
                · simp only [thn_normal, thn_exit, inb_normal, inb_exit, Nat.reduceEqDiff, if_true, if_false]
                  clear hK K
                  have hc16 : c = 16 := by have := of_decide_eq_false hb; omega
                  subst hc16
                  refine hKr2 _ ?_
                  clear hKr2 Kr2 hK5 K5
                  refine W.region tt_ok ?_
                  simp only [exOps_nil, exOps_cons, exOp_eq, nx_eq, cur_eq, stepQ, ev, ofV, lk, putT, erA, inB, opt, bnd, req, ret, onQ, ap, binG, binF, intF, thn_normal, true_and, and_self, Nat.reduceEqDiff, Nat.reduceLT, Nat.reduceAdd, if_true, if_false, wrap_up a (by omega)]
                  refine hK4 _ (a + 1) (by omega) (by omega) ?_
                  simp [wk, leL, lk, nmT, nmE, nmH, AV.nmIn, AV.nmInL, Ent.nmIn, Row.nmIn, lI]
              · simp only [thn_normal, thn_exit, inb_exit, Nat.reduceEqDiff, if_true, if_false]
                clear hK K
                have ha17 : a = 17 := by have := of_decide_eq_false hb; omega
                subst ha17
                refine hKz3 _ ?_
                clear hKz3 Kz3 hK4 K4
                have hLl := hll 17
                have hLb : Bd 1000000000 (lI S (rL key 16) 17) := fun c => by have := hlb 17 c; omega
                have hLn : num (lI S (rL key 16) 17) = uP key m q := by
                  rw [lI_num hSl hrl 17 (by omega), List.take_of_length_le (by omega), hSn]; rfl
                have hf := foldK_ok hp
                rw [← hLn] at hp hf
                have c1 := folded_at 4048 (lI S (rL key 16) 17) (foldK (num (lI S (rL key 16) 17))) hLl hLb hp hf.1 hf.2
                have hrow : byt (mF (foldK (num (lI S (rL key 16) 17)))) (vS (num (lI S (rL key 16) 17)) (foldK (num (lI S (rL key 16) 17)))) = byt (nM key m (q + 1)) (uN key m (q + 1)) := by rw [hLn]; rfl
                rw [hrow] at c1
                generalize lI S (rL key 16) 17 = L at hLl c1
                have hLt : List.take 40 L = L := List.take_of_length_le (by rw [hLl]; exact Nat.le_refl _)
                rw [← hLt] at c1
                refine W.region tt_ok ?_
                simp only [exOps_cons, exOp_eq, exCall_eq, nx_eq, cur_eq, evL, stepQ, ev, lk, putT, erA, inB, opt, ret, onQ, ap, true_and, Nat.reduceEqDiff, Nat.reduceLT, Nat.reduceAdd, if_true, if_false, Option.bind_some, Option.map_some]
                refine CallK.with [] [(4048, .vec 3 (.ints .i64 (byt (nM key m (q + 1)) (uN key m (q + 1)))))] _ _ c1 call34 (by simp only [Bool.or_false, lk, opt, bnd, req, ret, onQ, AV.isTup, isTupL, Ent.row, and_true, true_and, and_self, Nat.reduceEqDiff, Nat.zero_add, if_true, if_false, reduceCtorEq, forall_const, List.append_nil, vw.vwL, vw, viewR, AV.free, Ent.row, Bool.or_self]; all_goals (and_intros <;> first | exact AV.subL_refl _ | omega | rfl | (simp [AV.subL_refl]; done) | (simp [AV.subL, AV.sub, entsFree]; done))) (by simp [leL]) (by intro n hn; first | (left; revert hn; simp [Nm, lk]; done) | (right; revert hn; simp only [Nm, lk]; split <;> simp <;> omega)) (by simp [entsIn]) ?_
                simp only [callDel, exOps_nil, exOps_cons, exOp_eq, nx_eq, cur_eq, stepQ, ev, lk, putT, erA, inB, opt, ret, onQ, ap, up, er, thn_normal, inb_normal, true_and, Nat.reduceEqDiff, Nat.reduceLT, Nat.reduceAdd, if_true, if_false, reduceCtorEq, List.nil_append, List.map_cons, List.map_nil, List.reverse_cons, List.reverse_nil]
                refine hKr _ ?_
                clear hKr Kr
                have ha2 : IntKind.i64.wrap (((16 * q : Nat) : Int) + 16) = ((16 * (q + 1) : Nat) : Int) := by rw [IntKind.wrap_i64]; omega
                refine W.region tt_ok ?_
                simp only [exOps_nil, exOps_cons, exOp_eq, nx_eq, cur_eq, stepQ, ev, ofV, lk, putT, erA, inB, opt, bnd, req, ret, onQ, ap, binG, binF, intF, thn_normal, true_and, and_self, Nat.reduceEqDiff, Nat.reduceLT, Nat.reduceAdd, if_true, if_false, ha2]
                refine hK3 _ (q + 1) 4048 1056 (by omega) (by omega) ⟨⟨by simp [Nm, lk], by simp [Nm, lk]⟩, by simp, by simp⟩ ?_
                simp [St.swap, tmMap, enMap, swp, AV.map, AV.mapL, Ent.map, Row.map, wk, leL, lk, nmT, nmE, nmH, AV.nmIn, AV.nmInL, Ent.nmIn, Row.nmIn]
      · simp only [thn_normal, thn_exit, inb_exit, if_true]
        clear hK K
        have hqe : q = (m.length + 15) / 16 := by have := of_decide_eq_false hb; omega
        refine hKz _ ?_
        clear hKz Kz hK3 K3
        have hval := sumR_val hk hkl hm
        rw [← hqe] at hval
        obtain ⟨hu, hp, _⟩ := uN_ok hk hkl hm q
        have hnm := nM_ok key m q
        generalize uN key m q = u at *
        generalize nM key m q = M at *
        have e16 : (256 : Int) ^ 16 = 340282366920938463463374607431768211456 := rfl
        have e17 : (256 : Int) ^ 17 = 87112285931760246646623899502532662132736 := rfl
        have htk : List.take 17 (byt M u) = byt 17 u := by
          obtain ⟨t, ht⟩ : ∃ t, M = 17 + t := ⟨M - 17, by omega⟩
          rw [ht, byt_app, List.take_append_of_le_length (by rw [byt_len]; exact Nat.le_refl _), List.take_of_length_le (by rw [byt_len]; exact Nat.le_refl _)]
        have hnl := byt_len M u
        have hl17 := byt_len 17 u
        have hb17 := byt_bd 17 u
        refine W.seqK fun K hK => W.regionK tt_ok ?_
        simp only [exOps_nil, exOps_cons, exOp_eq, exCall_eq, nx_eq, cur_eq, evL, evP, stepQ, ev, lk, putT, erA, inB, opt, bnd, req, ret, onQ, ap, up, er, intsOf, bltQ, bltV, appQ, appV, srcQ, Row.len, Row.sz, Row.take, Row.drop, Row.app, Ent.row, bldA, bslQ, zeroCs, cellsRow, and_true, true_and, and_self, or_false, Nat.reduceEqDiff, Nat.reduceLT, Nat.reduceLeDiff, Nat.reduceAdd, Nat.reduceMul, Nat.le_refl, Nat.zero_le, Nat.zero_add, if_true, if_false, reduceCtorEq, Option.bind_some, Option.map_some, List.append_nil, List.nil_append, tt_3, tt_73, List.drop_zero, htk, hl17, List.take_zero, List.nil_append, List.length_replicate]
        repeat (refine ⟨by omega, ?_⟩)
        refine hK _ ?_
        clear hK K
        have g0 := hb17 0
        have w5 : IntKind.i64.wrap ((byt 17 u).getD 0 0 + 5) = (byt 17 u).getD 0 0 + 5 := by rw [IntKind.wrap_i64]; omega
        refine W.seqK fun K hK => W.regionK tt_ok ?_
        simp only [exOps_nil, exOps_cons, exOp_eq, nx_eq, cur_eq, stepQ, ev, ofV, lk, putT, erA, inB, opt, bnd, req, ret, onQ, ap, up, er, binG, binF, intF, Kd.elem, ixA, asI, ldP, ldE, Kd.agg, stP, stE, and_true, true_and, and_self, Nat.reduceEqDiff, Nat.reduceLT, Nat.reduceLeDiff, Nat.reduceAdd, Int.reduceLE, Int.reduceToNat, Nat.add_zero, Nat.zero_add, if_true, if_false, Bool.false_eq_true, reduceCtorEq, tt_3, tt_73, w5, hl17]
        repeat (refine ⟨by omega, ?_⟩)
        obtain ⟨F, hF⟩ : ∃ F, (byt 17 u).set 0 ((byt 17 u).getD 0 0 + 5) = F := ⟨_, rfl⟩
        have hFl : F.length = 17 := by rw [← hF, List.length_set]; exact hl17
        have hFb : Bd 1000000000 F := fun c => by
          rw [← hF]
          by_cases hc : 0 = c
          · subst hc; rw [getD_set_self (by omega)]; omega
          · rw [getD_set_ne hc]; have := hb17 c; omega
        have hFn : num F = u + 5 := by
          rw [← hF, num_set _ _ _ (by omega), num_byt, Int.emod_eq_of_lt hu.1 (by rw [e17]; have := hu.2; unfold tM at this; omega)]
          omega
        have c1 := carry_at 2256 F 17 17 hFb (by omega) (by omega) (by omega) (by omega) (by rw [hFn, e17]; have := hu.2; unfold tM at this; omega) (by omega)
        rw [hFn, ← show List.take 17 F = F from List.take_of_length_le (by rw [hFl]; exact Nat.le_refl _)] at c1
        rw [hF]
        refine hK _ ?_
        clear hK K
        refine W.seqK fun K hK => W.regionK tt_ok ?_
        simp only [exOps_cons, exOp_eq, exCall_eq, nx_eq, cur_eq, evL, stepQ, ev, ofV, lk, putT, erA, inB, opt, ret, onQ, ap, true_and, Nat.reduceEqDiff, Nat.reduceLT, Nat.reduceAdd, if_true, if_false, Option.bind_some, Option.map_some]
        refine CallK.with [] [(2256, .vec 3 (.ints .i64 (byt 17 (u + 5))))] _ _ c1 call35 (by simp only [Bool.or_false, AV.nmIn, lk, opt, bnd, req, ret, onQ, AV.isTup, isTupL, Ent.row, and_true, true_and, and_self, Nat.reduceEqDiff, Nat.zero_add, if_true, if_false, reduceCtorEq, forall_const, List.append_nil, vw.vwL, vw, viewR, AV.free, Ent.row, Bool.or_self]; all_goals (and_intros <;> first | exact AV.subL_refl _ | omega | rfl | (simp [AV.subL_refl]; done) | (simp [AV.subL, AV.sub, entsFree]; done))) (by simp [leL]) (by intro n hn; first | (left; revert hn; simp [Nm, lk]; done) | (right; revert hn; simp only [Nm, lk]; split <;> simp <;> omega)) (by simp [entsIn]) ?_
        simp only [callDel, exOps_nil, exOps_cons, exOp_eq, nx_eq, cur_eq, stepQ, ev, lk, putT, erA, inB, opt, ret, onQ, ap, up, er, true_and, Nat.reduceEqDiff, Nat.reduceLT, Nat.reduceAdd, if_true, if_false, reduceCtorEq, List.nil_append, List.map_cons, List.map_nil, List.reverse_cons, List.reverse_nil]
        refine hK _ ?_
        clear hK K
        have d16 : (byt 17 (u + 5)).getD 16 0 = (u + 5) / 256 ^ 16 % 256 := byt_get 17 (u + 5) 16 (by omega)
        have hl5 := byt_len 17 (u + 5)
        refine W.joinK ⟨[(1, .lstI .u8 m), (2, .ptr 0 0 0 1), (4, .ptr 16 0 0 1), (8, .sl 1056 1 0 17)], [(16, .obj 45 (.agg [.ints .u8 16 (List.replicate 16 0)])), (0, .obj 22 (.agg [.ints .u8 32 key])), (1056, .vec 3 (.ints .i64 (byt (if pM ≤ u then 17 else M) (xF u))))], 2600, 183⟩ (fun Kj hKj => ?_) ?_
        · refine W.seqK fun K hK => W.regionK tt_ok ?_
          simp only [exOps_nil, exOps_cons, exOp_eq, nx_eq, cur_eq, stepQ, ev, ofV, lk, putT, erA, inB, opt, bnd, req, ret, onQ, ap, binG, binF, intF, Kd.elem, ixA, asI, ldP, ldE, Kd.agg, and_true, true_and, and_self, Nat.reduceEqDiff, Nat.reduceLT, Nat.reduceAdd, Int.reduceLE, Int.reduceToNat, Nat.le_refl, Nat.zero_add, if_true, if_false, Bool.false_eq_true, reduceCtorEq, tt_3, tt_73, hl5]
          repeat (refine ⟨by omega, ?_⟩)
          refine hK _ ?_
          clear hK K
          refine W.cond (b := decide ((4 : Int) ≤ (byt 17 (u + 5)).getD 16 0)) (by simp only [ev, lk, Nat.reduceEqDiff, if_true, if_false]) (fun hc => ?_) (fun hc => W.skip ?_)
          · have h4 := of_decide_eq_true hc
            have hbig : pM ≤ u := by rw [d16, e16] at h4; have := hu.2; unfold pM; unfold tM at this; omega
            refine W.swap 2256 1056 ⟨⟨by simp [Nm, lk], by simp [Nm, lk]⟩, by simp, by simp⟩ (W.weak ⟨[(1, .lstI .u8 m), (2, .ptr 0 0 0 1), (4, .ptr 16 0 0 1), (19, .sl 1056 1 0 17)], [(16, .obj 45 (.agg [.ints .u8 16 (List.replicate 16 0)])), (0, .obj 22 (.agg [.ints .u8 32 key])), (1056, .vec 3 (.ints .i64 (byt 17 (u + 5))))], 2500, 183⟩ (by simp [St.swap, tmMap, enMap, swp, AV.map, AV.mapL, Ent.map, Row.map, wk, leL, lk, nmT, nmE, nmH, AV.nmIn, AV.nmInL, Ent.nmIn, Row.nmIn]) ?_)
            refine W.region tt_ok ?_
            simp only [exOps_nil, exOps_cons, exOp_eq, nx_eq, cur_eq, stepQ, ev, lk, putT, erA, inB, opt, ret, onQ, ap, thn_normal, true_and, Nat.reduceEqDiff, Nat.reduceLT, Nat.reduceAdd, if_true, if_false]
            refine hKj _ ?_
            rw [if_pos hbig, show xF u = u + 5 from if_pos hbig]
            simp [wk, leL, lk, nmT, nmE, nmH, AV.nmIn, AV.nmInL, Ent.nmIn, Row.nmIn]
          · have h4 := of_decide_eq_false hc
            have hbig : ¬ pM ≤ u := by rw [d16, e16] at h4; have := hu.2; unfold pM; unfold tM at this; omega
            rw [thn_normal]
            refine hKj _ ?_
            rw [if_neg hbig, show xF u = u from if_neg hbig]
            simp [wk, leL, lk, nmT, nmE, nmH, AV.nmIn, AV.nmInL, Ent.nmIn, Row.nmIn]
        have hP : 17 ≤ (if pM ≤ u then 17 else M) ∧ (if pM ≤ u then 17 else M) ≤ 40 := by split <;> omega
        generalize (if pM ≤ u then 17 else M) = P at hP
        generalize xF u = x at hval
        obtain ⟨R, hR⟩ : ∃ R, byt P x = R := ⟨_, rfl⟩
        have hRl : R.length = P := by rw [← hR, byt_len]
        have hRb : Bd 256 R := by rw [← hR]; exact byt_bd P x
        rw [hR]
        refine W.seqK fun Kz hKz => ?_
        refine W.seqK fun K hK => W.regionK tt_ok ?_
        simp only [exOps_nil, exOps_cons, exOp_eq, nx_eq, cur_eq, stepQ, ev, ofV, putT, erA, inB, opt, ret, onQ, ap, true_and, Nat.reduceEqDiff, Nat.reduceLT, Nat.reduceAdd, if_false]
        refine hK _ ?_
        clear hK K
        refine W.blockK ?_
        refine W.loopK (fun a : Nat => a ≤ 16) (fun a => ⟨[(1, .lstI .u8 m), (2, .ptr 0 0 0 1), (4, .ptr 16 0 0 1), (8, .sl 1056 1 0 17), (20, .int .i64 a)], [(16, .obj 45 (.agg [.ints .u8 16 (List.replicate 16 0)])), (0, .obj 22 (.agg [.ints .u8 32 key])), (1056, .vec 3 (.ints .i64 (sI R key 16 a)))], 3000, 183⟩) (fun a => 16 - a) 0 (by omega) (by simp [wk, leL, lk, nmT, nmE, nmH, AV.nmIn, AV.nmInL, Ent.nmIn, Row.nmIn, sI]) ?_
        intro a ha K4 hK4
        refine W.seqK fun K hK => ?_
        refine W.seqK fun K hK => W.regionK tt_ok ?_
        simp only [exOps_nil, exOps_cons, exOp_eq, nx_eq, cur_eq, stepQ, ev, ofV, lk, putT, erA, inB, opt, bnd, req, ret, onQ, ap, binG, binF, intF, true_and, and_self, Nat.reduceEqDiff, Nat.reduceLT, Nat.reduceAdd, if_true, if_false]
        refine hK _ ?_
        clear hK K
        refine W.cond (b := decide ((a : Int) < 16)) (by simp only [ev, lk, Nat.reduceEqDiff, if_true, if_false]) (fun hb => W.skip ?_) (fun hb => W.exit ?_)
        · rw [thn_normal]
          have hlta : a < 16 := by have := of_decide_eq_true hb; omega
          have hsl := sI_len R key 16 a
          rw [hRl] at hsl
          have hsb := sI_bd (o := 16) hRb (getD_by hk) a a
          rw [if_neg (by omega)] at hsb
          have hkb := getD_by hk (16 + a)
          have g1 : IntKind.i64.wrap (16 + (a : Int)) = ((16 + a : Nat) : Int) := by rw [IntKind.wrap_i64]; omega
          have g2 : IntKind.i64.wrap (key.getD (16 + a) 0) = key.getD (16 + a) 0 := by rw [IntKind.wrap_i64]; omega
          have g3 : IntKind.i64.wrap ((sI R key 16 a).getD a 0 + key.getD (16 + a) 0) = (sI R key 16 a).getD a 0 + key.getD (16 + a) 0 := by rw [IntKind.wrap_i64]; omega
          refine hK _ ?_
          clear hK K
          refine W.seqK fun Kr3 hKr3 => W.blockK ?_
          refine exD_sound (A := [⟨0, false, []⟩, ⟨0, false, []⟩, ⟨0, false, []⟩, ⟨0, false, []⟩, ⟨0, false, [2, 3]⟩, ⟨0, false, [2, 3, 4]⟩, ⟨0, false, []⟩, ⟨0, false, [6]⟩, ⟨0, false, [6, 7]⟩, ⟨0, false, [6, 7, 8]⟩, ⟨0, false, [6, 7, 8, 9]⟩, ⟨0, false, [2, 3, 4, 5, 6, 7, 8, 9, 10]⟩, ⟨0, false, [0, 1, 2, 3, 4, 5, 6, 7, 8, 9, 10, 11]⟩, ⟨2, false, [0, 1, 2, 3, 4, 5, 6, 7, 8, 9, 10, 11, 12]⟩]) mix tt_ok (by kernel_rfl) ?_
          simp only [exOp_eq, exD_nil, exD_cons, nxD_eq, cur_eq, flI, ownB, stepQ, ev, ofV, lk, putT, erA, inB, opt, bnd, req, ret, onQ, ap, up, er, binG, binF, intF, Kd.elem, Kd.isInt, ixA, asI, ldP, ldE, ldC, ldS, Kd.agg, comps, csize, takeI, takeC, dropC, stP, stE, cvQ, thn_normal, inb_normal, and_true, true_and, and_self, Nat.reduceEqDiff, Nat.reduceLT, Nat.reduceLeDiff, Nat.reduceAdd, Nat.reduceSub, Int.toNat_natCast, Nat.zero_add, if_true, if_false, Bool.false_eq_true, reduceCtorEq, Option.bind_some, Option.map_some, tt_3, tt_5, tt_22, tt_73, g1, g2, g3, hsl]
          repeat (refine ⟨by omega, ?_⟩)
          refine hKr3 _ ?_
          clear hKr3 Kr3
          refine W.region tt_ok ?_
          simp only [exOps_nil, exOps_cons, exOp_eq, nx_eq, cur_eq, stepQ, ev, ofV, lk, putT, erA, inB, opt, bnd, req, ret, onQ, ap, binG, binF, intF, thn_normal, true_and, and_self, Nat.reduceEqDiff, Nat.reduceLT, Nat.reduceAdd, if_true, if_false, wrap_up a (by omega)]
          refine hK4 _ (a + 1) (by omega) (by omega) ?_
          simp [wk, leL, lk, nmT, nmE, nmH, AV.nmIn, AV.nmInL, Ent.nmIn, Row.nmIn, sI]
        · simp only [thn_normal, thn_exit, inb_exit, if_true]
          clear hK K
          have ha16 : a = 16 := by have := of_decide_eq_false hb; omega
          subst ha16
          refine hKz _ ?_
          clear hKz Kz hK4 K4
          have hsl := sI_len R key 16 16
          rw [hRl] at hsl
          have hsb := sI_bd (o := 16) hRb (getD_by hk) 16
          have hTn : num (List.take 16 (sI R key 16 16)) = x % 256 ^ 16 + num (key.drop 16) := by
            have hRt : R.take 16 = byt 16 x := by
              obtain ⟨t, ht⟩ : ∃ t, P = 16 + t := ⟨P - 16, by omega⟩
              rw [← hR, ht, byt_app, List.take_append_of_le_length (by rw [byt_len]; exact Nat.le_refl _), List.take_of_length_le (by rw [byt_len]; exact Nat.le_refl _)]
            rw [sI_take _ _ _ _ _ (Nat.le_refl _), sI_num _ _ _ _ (by rw [hRt, byt_len]; exact Nat.le_refl _), hRt, num_byt, show (key.drop 16).take 16 = key.drop 16 from List.take_of_length_le (by rw [List.length_drop, hkl]; exact Nat.le_refl _)]
          have hTb : Bd 1000000000 (List.take 16 (sI R key 16 16)) := fun c => by
            by_cases hc : c < 16
            · have : (List.take 16 (sI R key 16 16)).getD c 0 = (sI R key 16 16).getD c 0 := by simp [List.getD_eq_getElem?_getD, hc]
              rw [this]; have := hsb c; split at this <;> omega
            · have : (List.take 16 (sI R key 16 16)).getD c 0 = 0 := by simp [List.getD_eq_getElem?_getD, List.getElem?_take, hc]
              rw [this]; omega
          have hTl : (List.take 16 (sI R key 16 16)).length = 16 := by rw [List.length_take, hsl]; omega
          have hkn := num_range (By.drop hk 16)
          rw [List.length_drop, hkl, show 32 - 16 = 16 from rfl, e16] at hkn
          rw [e16] at hTn hval
          obtain ⟨w, hw⟩ : ∃ w, x % 340282366920938463463374607431768211456 + num (key.drop 16) = w := ⟨_, rfl⟩
          rw [hw] at hTn hval
          have hw0 : 0 ≤ w ∧ w < 87112285931760246646623899502532662132736 := by omega
          have hM2 : 16 ≤ (if w < 340282366920938463463374607431768211456 then 16 else 17) ∧ (if w < 340282366920938463463374607431768211456 then 16 else 17) ≤ 17 := by split <;> omega
          have hlt3 : w < 256 ^ (if w < 340282366920938463463374607431768211456 then 16 else 17) := by
            split
            · rw [e16]; omega
            · rw [e17]; omega
          have hge3 : (if w < 340282366920938463463374607431768211456 then 16 else 17) ≤ 16 ∨ (if w < 340282366920938463463374607431768211456 then 16 else 17) ≤ (List.take 16 (sI R key 16 16)).length ∨ 256 ^ ((if w < 340282366920938463463374607431768211456 then 16 else 17) - 1) ≤ num (List.take 16 (sI R key 16 16)) := by
            rw [hTn]
            split
            · exact Or.inl (Nat.le_refl _)
            · refine Or.inr (Or.inr ?_)
              rw [show 17 - 1 = 16 from rfl, e16]; omega
          have c1 := carry_at 3064 (List.take 16 (sI R key 16 16)) 16 (if w < 340282366920938463463374607431768211456 then 16 else 17) hTb (by omega) (by omega) (by omega) (by omega)
            (by rw [hTn]; exact hlt3) hge3
          rw [hTn] at c1
          generalize (if w < 340282366920938463463374607431768211456 then 16 else 17) = M2 at hM2 c1
          refine W.seqK fun K hK => W.regionK tt_ok ?_
          simp only [exOps_cons, exOp_eq, exCall_eq, nx_eq, cur_eq, evL, stepQ, ev, ofV, lk, putT, erA, inB, opt, bnd, req, ret, onQ, ap, slF, bd, bds, true_and, and_self, Nat.reduceEqDiff, Nat.reduceLT, Nat.reduceLeDiff, Nat.reduceAdd, Nat.reduceSub, Int.reduceLE, Int.reduceToNat, Nat.add_zero, if_true, if_false, Option.bind_some, Option.map_some, tt_3, tt_73]
          repeat (refine ⟨by omega, ?_⟩)
          refine CallK.with [] [(3064, .vec 3 (.ints .i64 (byt M2 w)))] _ _ c1 call35 (by simp only [Bool.or_false, AV.nmIn, lk, opt, bnd, req, ret, onQ, AV.isTup, isTupL, Ent.row, and_true, true_and, and_self, Nat.reduceEqDiff, Nat.zero_add, if_true, if_false, reduceCtorEq, forall_const, List.append_nil, vw.vwL, vw, viewR, AV.free, Ent.row, Bool.or_self]; all_goals (and_intros <;> first | exact AV.subL_refl _ | omega | rfl | (simp [AV.subL_refl]; done) | (simp [AV.subL, AV.sub, entsFree]; done))) (by simp [leL]) (by intro n hn; first | (left; revert hn; simp [Nm, lk]; done) | (right; revert hn; simp only [Nm, lk]; split <;> simp <;> omega)) (by simp [entsIn]) ?_
          simp only [callDel, exOps_nil, exOps_cons, exOp_eq, nx_eq, cur_eq, stepQ, ev, lk, putT, erA, inB, opt, ret, onQ, ap, up, er, true_and, Nat.reduceEqDiff, Nat.reduceLT, Nat.reduceAdd, if_true, if_false, reduceCtorEq, List.nil_append, List.map_cons, List.map_nil, List.reverse_cons, List.reverse_nil]
          refine hK _ ?_
          clear hK K
          refine W.seqK fun K hK => W.regionK tt_ok ?_
          simp only [exOps_nil, exOps_cons, exOp_eq, nx_eq, cur_eq, stepQ, putT, erA, inB, opt, ret, onQ, ap, up, er, true_and, Nat.reduceEqDiff, Nat.reduceLT, Nat.reduceAdd, if_false, reduceCtorEq, tt_45]
          refine hK _ ?_
          clear hK K
          have hdl := byt_len M2 w
          have hdb := byt_bd M2 w
          refine W.seqK fun Kz hKz => ?_
          refine W.seqK fun K hK => W.regionK tt_ok ?_
          simp only [exOps_nil, exOps_cons, exOp_eq, nx_eq, cur_eq, stepQ, ev, ofV, putT, erA, inB, opt, ret, onQ, ap, true_and, Nat.reduceEqDiff, Nat.reduceLT, Nat.reduceAdd, if_false]
          refine hK _ ?_
          clear hK K
          refine W.blockK ?_
          refine W.loopK (fun a : Nat => a ≤ 16) (fun a => ⟨[(1, .lstI .u8 m), (2, .ptr 0 0 0 1), (4, .ptr 16 0 0 1), (21, .sl 3064 1 0 M2), (22, .ptr 3096 0 0 1), (23, .int .i64 a)], [(16, .obj 45 (.agg [.ints .u8 16 (List.replicate 16 0)])), (0, .obj 22 (.agg [.ints .u8 32 key])), (3064, .vec 3 (.ints .i64 (byt M2 w))), (3096, .obj 45 (.agg [.ints .u8 16 (oL (byt M2 w) a)]))], 4000, 183⟩) (fun a => 16 - a) 0 (by omega) (by simp [wk, leL, lk, nmT, nmE, nmH, AV.nmIn, AV.nmInL, Ent.nmIn, Row.nmIn, oL]) ?_
          intro a ha K4 hK4
          refine W.seqK fun K hK => ?_
          refine W.seqK fun K hK => W.regionK tt_ok ?_
          simp only [exOps_nil, exOps_cons, exOp_eq, nx_eq, cur_eq, stepQ, ev, ofV, lk, putT, erA, inB, opt, bnd, req, ret, onQ, ap, binG, binF, intF, true_and, and_self, Nat.reduceEqDiff, Nat.reduceLT, Nat.reduceAdd, if_true, if_false]
          refine hK _ ?_
          clear hK K
          refine W.cond (b := decide ((a : Int) < 16)) (by simp only [ev, lk, Nat.reduceEqDiff, if_true, if_false]) (fun hb => W.skip ?_) (fun hb => W.exit ?_)
          · rw [thn_normal]
            have hlta : a < 16 := by have := of_decide_eq_true hb; omega
            have hol := oL_len (byt M2 w) a
            refine hK _ ?_
            clear hK K
            refine W.seqK fun Kr3 hKr3 => W.blockK ?_
            refine W.region tt_ok ?_
            simp only [exOps_nil, exOps_cons, exOp_eq, nx_eq, cur_eq, stepQ, ev, lk, putT, erA, inB, opt, bnd, req, ret, onQ, ap, up, er, AV.isTup, AV.isAgg, Kd.elem, Kd.isInt, ixA, asI, ldP, ldE, Kd.agg, comps, csize, takeI, takeC, dropC, stP, stE, stC, stS, cvQ, thn_normal, inb_normal, and_true, true_and, and_self, Nat.reduceEqDiff, Nat.reduceLT, Nat.reduceLeDiff, Nat.reduceAdd, Nat.reduceSub, Int.toNat_natCast, Nat.zero_add, if_true, if_false, Bool.false_eq_true, reduceCtorEq, Option.bind_some, Option.map_some, tt_3, tt_5, tt_45, tt_73]
            repeat (refine ⟨by omega, ?_⟩)
            refine hKr3 _ ?_
            clear hKr3 Kr3
            refine W.region tt_ok ?_
            simp only [exOps_nil, exOps_cons, exOp_eq, nx_eq, cur_eq, stepQ, ev, ofV, lk, putT, erA, inB, opt, bnd, req, ret, onQ, ap, binG, binF, intF, thn_normal, true_and, and_self, Nat.reduceEqDiff, Nat.reduceLT, Nat.reduceAdd, if_true, if_false, wrap_up a (by omega)]
            refine hK4 _ (a + 1) (by omega) (by omega) ?_
            simp [wk, leL, lk, nmT, nmE, nmH, AV.nmIn, AV.nmInL, Ent.nmIn, Row.nmIn, oL]
          · simp only [thn_normal, thn_exit, inb_exit, if_true]
            clear hK K
            have ha16 : a = 16 := by have := of_decide_eq_false hb; omega
            subst ha16
            refine hKz _ ?_
            clear hKz Kz hK4 K4
            have hoe : oL (byt M2 w) 16 = sumN key m := by rw [oL_byt w M2 hM2.1, hval]
            rw [hoe]
            refine W.seqK fun K hK => W.regionK tt_ok ?_
            simp only [exOps_nil, exOps_cons, exOp_eq, nx_eq, cur_eq, stepQ, ev, lk, putT, erA, inB, opt, bnd, req, ret, onQ, ap, up, er, AV.isAgg, ldP, ldE, ldC, ldS, Kd.agg, comps, szL, csize, takeI, takeC, dropC, stP, stE, stC, stS, true_and, and_self, Nat.reduceEqDiff, Nat.reduceLT, Nat.reduceLeDiff, Nat.reduceAdd, Nat.reduceSub, Nat.sub_self, Nat.le_refl, Nat.add_zero, Nat.zero_add, if_true, if_false, reduceCtorEq, Option.bind_some, Option.map_some, List.append_nil, List.nil_append, tt_45]
            repeat (refine ⟨by omega, ?_⟩)
            refine hK _ ?_
            clear hK K
            refine W.ret ?_
            simp only [fin_ret, finB, resQ, resV, leL, AV.nmIn, AV.nmInL, entsIn, lk, opt, bnd, req, ret, onQ, AV.isTup, ldP, ldE, ldC, ldS, Kd.agg, comps, csize, takeI, takeC, dropC, and_self, Nat.reduceEqDiff, Nat.reduceLT, Nat.reduceLeDiff, Nat.reduceSub, Nat.sub_self, Nat.le_refl, Nat.add_zero, if_true, if_false, reduceCtorEq, Option.bind_some, Option.map_some, tt_45]
end Go.Proofs.YtakgcmponelbeaaDoor.Tg
