/- The document's filled: bytes up to a multiple of 64. -/
import Derived.Test.YtageadccfdbmjaaDoorRsB
-- TT 2 3 4 5 22 26 28 59 71
set_option linter.unusedVariables false
set_option linter.unusedSimpArgs false
namespace Go.Proofs.YtageadccfdbmjaaDoor
open Sx
set_option maxRecDepth 100000
set_option maxHeartbeats 1000000
def zsN (b : List Int) : Nat := (119 - b.length % 64) % 64
/-- The text, 128, and so many zeros. -/
def fzK (b : List Int) (k : Nat) : List Int := (b ++ [128]) ++ List.replicate k 0
theorem fzK_s (b : List Int) (k : Nat) : fzK b (k + 1) = fzK b k ++ [0] := by
  rw [fzK, fzK, List.replicate_succ', ← List.append_assoc]
theorem fzK_len (b : List Int) (k : Nat) : (fzK b k).length = b.length + 1 + k := by
  rw [fzK, List.length_append, List.length_append, List.length_replicate]; rfl
/-- The last bytes of a number, in front of what is there. -/
def nbK (v : Int) : Nat → List Int × Int
  | 0 => ([], v)
  | i + 1 => match nbK v i with
    | (l, n) => (IntKind.u8.wrap (n.tmod 256) :: l, IntKind.u64.wrap (n.tdiv 256))
theorem nbK_s (v : Int) (i : Nat) : nbK v (i + 1) = (IntKind.u8.wrap ((nbK v i).2.tmod 256) :: (nbK v i).1, IntKind.u64.wrap ((nbK v i).2.tdiv 256)) := rfl
theorem nbK_len (v : Int) : ∀ i, (nbK v i).1.length = i
  | 0 => rfl
  | i + 1 => by rw [nbK_s, List.length_cons, nbK_len v i]
def filN (b : List Int) : List Int := fzK b (zsN b) ++ (nbK (IntKind.u64.wrap (8 * IntKind.u64.wrap (b.length : Int))) 8).1
theorem filN_len (b : List Int) : (filN b).length = b.length + 1 + zsN b + 8 := by
  rw [filN, List.length_append, fzK_len, nbK_len]
theorem fill_fn0 (b : List Int) (hb : b.length ≤ 100000) : FnR Tryd.prog G 30 [.lstI .u8 b] [] (.sl 864 1 0 (filN b).length) [(864, .vec 5 (.ints .u8 (filN b)))] := by
  have ht1 : ∀ x : Int, List.take 1 (List.drop 0 [x]) = [x] := fun _ => rfl
  rw [filN]
  generalize hv : IntKind.u64.wrap (8 * IntKind.u64.wrap (b.length : Int)) = v at *
  refine FnR.of_walk (m := 39) (n0 := 0) tt_ok Tryd.func30 rfl rfl (by simp) (by simp [nmH]) ?_
  rw [show Tryd.f30.results.toList = [.tmp 2] from rfl]
  refine W.seqK fun K hK => W.regionK tt_ok ?_
  simp only [exOps_nil, exOps_cons, exOp_eq, nx_eq, cur_eq, stepQ, ev, ofV, parT, putT, erA, inB, opt, ret, onQ, ap, true_and, Nat.reduceLT, Nat.zero_add, if_false, reduceCtorEq]
  refine hK _ ?_
  clear hK K
  refine W.seqK fun K hK => W.regionK tt_ok ?_
  simp only [exOps_nil, exOps_cons, exOp_eq, exCall_eq, nx_eq, cur_eq, evL, evP, stepQ, ev, lk, putT, erA, inB, opt, bnd, req, ret, onQ, ap, up, er, intsOf, bltQ, bltV, appQ, appV, srcQ, rowOf, Row.len, Row.sz, Row.take, Row.app, bldA, bslQ, zeroCs, cellsRow, and_true, true_and, and_self, or_false, Nat.reduceEqDiff, Nat.reduceLT, Nat.reduceAdd, Nat.reduceMul, Nat.le_refl, Nat.zero_le, Nat.zero_add, if_true, if_false, reduceCtorEq, Option.bind_some, Option.map_some, List.nil_append, tt_5, tt_22, List.length_nil, List.replicate_zero, List.take_zero, List.nil_append]
  refine ⟨by omega, ?_⟩
  refine hK _ ?_
  clear hK K
  refine W.seqK fun K hK => W.regionK tt_ok ?_
  simp only [exOps_nil, exOps_cons, exOp_eq, exCall_eq, nx_eq, cur_eq, evL, evP, stepQ, ev, ofV, lk, putT, erA, inB, opt, bnd, req, ret, onQ, ap, up, er, AV.isTup, AV.isAgg, intsOf, Kd.agg, comps, szL, csize, takeI, takeC, dropC, stC, stS, bltQ, bltV, appR, appQ, appV, srcQ, Row.len, Row.sz, Row.take, Row.drop, Row.app, Ent.row, bldA, bslQ, zeroCs, cellsRow, and_true, true_and, and_self, and_false, or_false, Nat.reduceEqDiff, Nat.reduceLT, Nat.reduceLeDiff, Nat.reduceAdd, Nat.reduceSub, Nat.reduceMul, Nat.sub_self, Nat.le_refl, Nat.add_zero, Nat.zero_add, if_true, if_false, Bool.false_eq_true, reduceCtorEq, Option.bind_some, Option.map_some, List.append_nil, List.nil_append, List.cons_append, tt_5, tt_22, lit1, List.set_cons_zero, List.length_cons, List.length_nil, ht1, List.take_length]
  refine ⟨by omega, ?_⟩
  refine hK _ ?_
  clear hK K
  refine W.seqK fun Kx hKx => ?_
  refine W.blockK ?_
  refine W.loopS (fun k : Nat => k ≤ zsN b) (fun k => ⟨[(0, .lstI .u8 b), (3, .sl 112 1 0 (fzK b k).length)], [(112, .vec 5 (.ints .u8 (fzK b k)))], 600, 39⟩) (fun k => zsN b - k) 0 (by simp) (by simp [fzK, wk, leL, lk, nmT, nmE, nmH, AV.nmIn, Ent.nmIn, Row.nmIn]) ?_
  intro k hk K3 hK3
  have hl := fzK_len b k
  have hz : zsN b = (119 - b.length % 64) % 64 := rfl
  by_cases hlt : k < zsN b
  · have hs := fzK_s b k
    have c1 : (((fzK b k).length : Int).tmod 64 != 56) = true := by
      rw [hl, Int.tmod_eq_emod_of_nonneg (by omega), bne_iff_ne]; omega
    generalize hT1 : fzK b (k + 1) = L1 at *
    generalize hT0 : fzK b k = L at *
    refine W.seqK fun K0 hK0 => ?_
    refine W.seqK fun K hK => W.regionK tt_ok ?_
    simp only [exOps_nil, exOps_cons, exOp_eq, exCall_eq, nx_eq, cur_eq, evL, stepQ, ev, ofV, lk, putT, erA, inB, opt, bnd, req, ret, onQ, ap, binG, binF, intF, bltQ, bltV, lenF, and_true, true_and, and_self, or_false, Nat.reduceEqDiff, Nat.reduceLT, Nat.reduceAdd, if_true, if_false, reduceCtorEq, ne_eq, List.getElem?_cons_zero, Option.bind_some, Option.map_some, tt_22, c1]
    repeat (refine ⟨by omega, ?_⟩)
    refine hK _ ?_
    clear hK K
    refine W.cond (b := true) (by simp only [ev, lk, Nat.reduceEqDiff, if_true, if_false, reduceCtorEq]) (fun _ => ?_) (fun h => absurd h (by simp))
    refine W.skip ?_
    simp only [thn_normal]
    refine hK0 _ ?_
    refine W.blockK ?_
    refine W.region tt_ok ?_
    simp only [exOps_nil, exOps_cons, exOp_eq, exCall_eq, nx_eq, cur_eq, evL, evP, stepQ, ev, ofV, lk, putT, erA, inB, opt, bnd, req, ret, onQ, ap, up, er, AV.isTup, AV.isAgg, intsOf, Kd.agg, comps, szL, csize, takeI, takeC, dropC, stC, stS, bltQ, bltV, appR, appQ, appV, srcQ, Row.len, Row.sz, Row.take, Row.drop, Row.app, Ent.row, bldA, bslQ, zeroCs, cellsRow, thn_normal, inb_normal, and_true, true_and, and_self, and_false, or_false, Nat.reduceEqDiff, Nat.reduceLT, Nat.reduceLeDiff, Nat.reduceAdd, Nat.reduceSub, Nat.reduceMul, Nat.sub_self, Nat.le_refl, Nat.add_zero, Nat.zero_add, if_true, if_false, Bool.false_eq_true, reduceCtorEq, Option.bind_some, Option.map_some, List.append_nil, List.nil_append, List.cons_append, tt_5, tt_22, lit1, List.set_cons_zero, List.length_cons, List.length_nil, ht1, List.take_length]
    refine ⟨by omega, ?_⟩
    refine hK3 _ (k + 1) 696 112 (by omega) (by omega) ⟨⟨by simp [Nm, lk], by simp [Nm, lk]⟩, by simp, by simp⟩ ?_
    rw [hT1, hs]
    simp [St.swap, tmMap, enMap, swp, AV.map, Ent.map, Row.map, wk, leL, lk, nmT, nmE, nmH, AV.nmIn, Ent.nmIn, Row.nmIn]
  have hk' : k = zsN b := by omega
  rw [hk'] at hl ⊢
  have c1 : (((fzK b (zsN b)).length : Int).tmod 64 != 56) = false := by
    rw [hl, Int.tmod_eq_emod_of_nonneg (by omega), bne_eq_false_iff_eq]; omega
  clear hK3 hlt
  generalize fzK b (zsN b) = L at *
  refine W.seqK fun K0 hK0 => ?_
  refine W.seqK fun K hK => W.regionK tt_ok ?_
  simp only [exOps_nil, exOps_cons, exOp_eq, exCall_eq, nx_eq, cur_eq, evL, stepQ, ev, ofV, lk, putT, erA, inB, opt, bnd, req, ret, onQ, ap, binG, binF, intF, bltQ, bltV, lenF, and_true, true_and, and_self, or_false, Nat.reduceEqDiff, Nat.reduceLT, Nat.reduceAdd, if_true, if_false, reduceCtorEq, ne_eq, List.getElem?_cons_zero, Option.bind_some, Option.map_some, tt_22, c1]
  repeat (refine ⟨by omega, ?_⟩)
  refine hK _ ?_
  clear hK K
  refine W.cond (b := false) (by simp only [ev, lk, Nat.reduceEqDiff, if_true, if_false, reduceCtorEq]) (fun h => absurd h (by simp)) (fun _ => ?_)
  refine W.exit ?_
  simp only [thn_normal, thn_exit, inb_exit, if_true]
  refine hKx _ ?_
  refine W.seqK fun K hK => W.regionK tt_ok ?_
  simp only [exOps_nil, exOps_cons, exOp_eq, exCall_eq, nx_eq, cur_eq, evL, stepQ, ev, ofV, lk, putT, erA, inB, opt, bnd, req, ret, onQ, ap, binG, binF, intF, bltQ, bltV, lenF, cvQ, true_and, and_self, or_false, Nat.reduceEqDiff, Nat.reduceLT, Nat.reduceAdd, if_true, if_false, reduceCtorEq, List.getElem?_cons_zero, Option.bind_some, Option.map_some, tt_3, tt_22, tt_28, hv]
  refine hK _ ?_
  clear hK K
  refine W.seqK fun K hK => W.regionK tt_ok ?_
  simp only [exOps_nil, exOps_cons, exOp_eq, nx_eq, cur_eq, stepQ, ev, ofV, putT, erA, inB, opt, ret, onQ, ap, true_and, Nat.reduceEqDiff, Nat.reduceLT, Nat.reduceAdd, if_false, reduceCtorEq]
  refine hK _ ?_
  clear hK K
  refine W.seqK fun Kx hKx => ?_
  refine W.seqK fun K hK => W.regionK tt_ok ?_
  simp only [exOps_nil, exOps_cons, exOp_eq, nx_eq, cur_eq, stepQ, ev, ofV, putT, erA, inB, opt, ret, onQ, ap, true_and, Nat.reduceEqDiff, Nat.reduceLT, Nat.reduceAdd, if_false, reduceCtorEq]
  refine hK _ ?_
  clear hK K
  refine W.blockK ?_
  refine W.loopS (fun i : Nat => i ≤ 8) (fun i => ⟨[(3, .sl 112 1 0 L.length), (4, .int .u64 (nbK v i).2), (5, if i = 0 then .nils else .sl 300 1 0 i), (6, .int .i64 (i : Int))], (112, .vec 5 (.ints .u8 L)) :: if i = 0 then [] else [(300, .vec 5 (.ints .u8 (nbK v i).1))], 800, 39⟩) (fun i => 8 - i) 0 (by simp) (by simp [nbK, wk, leL, lk, nmT, nmE, nmH, AV.nmIn, Ent.nmIn, Row.nmIn]) ?_
  intro i hi K3 hK3
  have hnl := nbK_len v i
  by_cases hlt : i < 8
  · have hs := nbK_s v i
    have c1 : (i : Int) < 8 := by omega
    generalize hT1 : nbK v (i + 1) = s1 at *
    generalize hT0 : nbK v i = s at *
    obtain ⟨l, n⟩ := s
    simp only at hnl hs
    by_cases hi0 : i = 0
    · have hl0 : l = [] := List.length_eq_zero_iff.1 (by omega)
      simp only [if_pos hi0]
      refine W.seqK fun K0 hK0 => ?_
      refine W.seqK fun K hK => W.regionK tt_ok ?_
      simp only [decide_true, exOps_nil, exOps_cons, exOp_eq, nx_eq, cur_eq, stepQ, ev, ofV, lk, putT, erA, inB, opt, bnd, req, ret, onQ, ap, binG, binF, intF, true_and, and_self, Nat.reduceEqDiff, Nat.reduceLT, Nat.reduceAdd, if_true, if_false, c1]
      refine hK _ ?_
      clear hK K
      refine W.cond (b := true) (by simp only [ev, lk, Nat.reduceEqDiff, if_true, if_false]) (fun _ => W.skip ?_) (fun h => absurd h (by simp))
      rw [thn_normal]
      refine hK0 _ ?_
      clear hK0 K0
      refine W.seqK fun K hK => W.blockK ?_
      refine W.seqK fun K hK => W.regionK tt_ok ?_
      simp only [exOps_nil, exOps_cons, exOp_eq, exCall_eq, nx_eq, cur_eq, evL, evP, stepQ, ev, ofV, lk, putT, erA, inB, opt, bnd, req, ret, onQ, ap, up, er, AV.isTup, AV.isAgg, binG, binF, intF, intsOf, Kd.agg, comps, szL, csize, takeI, takeC, dropC, stC, stS, bltQ, bltV, cvQ, appQ, appV, srcQ, rowOf, Row.len, Row.sz, Row.take, Row.app, bldA, bslQ, zeroCs, cellsRow, and_true, true_and, and_self, and_false, or_false, Nat.reduceEqDiff, Nat.reduceLT, Nat.reduceLeDiff, Nat.reduceAdd, Nat.reduceSub, Nat.reduceMul, Nat.sub_self, Nat.le_refl, Nat.add_zero, Nat.zero_add, if_true, if_false, Bool.false_eq_true, reduceCtorEq, ne_eq, Option.bind_some, Option.map_some, List.append_nil, List.nil_append, List.cons_append, tt_5, tt_22, tt_28, lit1, List.set_cons_zero, List.length_cons, List.length_nil]
      refine ⟨by omega, ?_⟩
      refine hK _ ?_
      clear hK K
      refine W.region tt_ok ?_
      simp only [exOps_nil, exOps_cons, exOp_eq, nx_eq, cur_eq, stepQ, ev, ofV, lk, putT, erA, inB, opt, bnd, req, ret, onQ, ap, binG, binF, intF, thn_normal, inb_normal, and_true, true_and, Nat.reduceEqDiff, Nat.reduceLT, Nat.reduceAdd, if_true, if_false, ne_eq]
      repeat (refine ⟨by omega, ?_⟩)
      refine hK _ ?_
      refine W.region tt_ok ?_
      simp only [exOps_nil, exOps_cons, exOp_eq, nx_eq, cur_eq, stepQ, ev, ofV, lk, putT, erA, inB, opt, bnd, req, ret, onQ, ap, binG, binF, intF, thn_normal, true_and, and_self, Nat.reduceEqDiff, Nat.reduceLT, Nat.reduceAdd, if_true, if_false, wrap_up i (by omega)]
      refine hK3 _ (i + 1) 912 300 (by omega) (by omega) ⟨⟨by simp [Nm, lk], by simp [Nm, lk]⟩, by simp, by simp⟩ ?_
      rw [hT1, hs]
      simp [hi0, hl0, St.swap, tmMap, enMap, swp, AV.map, Ent.map, Row.map, wk, leL, lk, nmT, nmE, nmH, AV.nmIn, Ent.nmIn, Row.nmIn]
    · simp only [if_neg hi0]
      have htl : List.take i (List.drop 0 l) = l := by rw [List.drop_zero]; exact List.take_of_length_le (by omega)
      have h10 : ∀ x : Int, List.take 1 [x] ++ l = x :: l := fun _ => rfl
      refine W.seqK fun K0 hK0 => ?_
      refine W.seqK fun K hK => W.regionK tt_ok ?_
      simp only [decide_true, exOps_nil, exOps_cons, exOp_eq, nx_eq, cur_eq, stepQ, ev, ofV, lk, putT, erA, inB, opt, bnd, req, ret, onQ, ap, binG, binF, intF, true_and, and_self, Nat.reduceEqDiff, Nat.reduceLT, Nat.reduceAdd, if_true, if_false, c1]
      refine hK _ ?_
      clear hK K
      refine W.cond (b := true) (by simp only [ev, lk, Nat.reduceEqDiff, if_true, if_false]) (fun _ => W.skip ?_) (fun h => absurd h (by simp))
      rw [thn_normal]
      refine hK0 _ ?_
      clear hK0 K0
      refine W.seqK fun K hK => W.blockK ?_
      refine W.seqK fun K hK => W.regionK tt_ok ?_
      simp only [exOps_nil, exOps_cons, exOp_eq, exCall_eq, nx_eq, cur_eq, evL, evP, stepQ, ev, ofV, lk, putT, erA, inB, opt, bnd, req, ret, onQ, ap, up, er, AV.isTup, AV.isAgg, binG, binF, intF, intsOf, Kd.agg, comps, szL, csize, takeI, takeC, dropC, stC, stS, bltQ, bltV, appR, cvQ, appQ, appV, srcQ, Row.len, Row.sz, Row.take, Row.drop, Row.app, Ent.row, bldA, bslQ, zeroCs, cellsRow, and_true, true_and, and_self, and_false, or_false, Nat.reduceEqDiff, Nat.reduceLT, Nat.reduceLeDiff, Nat.reduceAdd, Nat.reduceSub, Nat.reduceMul, Nat.sub_self, Nat.le_refl, Nat.add_zero, Nat.zero_add, if_true, if_false, Bool.false_eq_true, reduceCtorEq, ne_eq, Option.bind_some, Option.map_some, List.append_nil, List.nil_append, List.cons_append, tt_5, tt_22, tt_28, lit1, List.set_cons_zero, List.length_cons, List.length_nil, htl, hnl, h10]
      refine ⟨by omega, by omega, ?_⟩
      refine hK _ ?_
      clear hK K
      refine W.region tt_ok ?_
      simp only [exOps_nil, exOps_cons, exOp_eq, nx_eq, cur_eq, stepQ, ev, ofV, lk, putT, erA, inB, opt, bnd, req, ret, onQ, ap, binG, binF, intF, thn_normal, inb_normal, and_true, true_and, Nat.reduceEqDiff, Nat.reduceLT, Nat.reduceAdd, if_true, if_false, ne_eq]
      repeat (refine ⟨by omega, ?_⟩)
      refine hK _ ?_
      refine W.region tt_ok ?_
      simp only [exOps_nil, exOps_cons, exOp_eq, nx_eq, cur_eq, stepQ, ev, ofV, lk, putT, erA, inB, opt, bnd, req, ret, onQ, ap, binG, binF, intF, thn_normal, true_and, and_self, Nat.reduceEqDiff, Nat.reduceLT, Nat.reduceAdd, if_true, if_false, wrap_up i (by omega)]
      refine hK3 _ (i + 1) 912 300 (by omega) (by omega) ⟨⟨by simp [Nm, lk], by simp [Nm, lk]⟩, by simp, by simp⟩ ?_
      rw [hT1, hs]
      simp [Nat.add_comm, St.swap, tmMap, enMap, swp, AV.map, Ent.map, Row.map, wk, leL, lk, nmT, nmE, nmH, AV.nmIn, Ent.nmIn, Row.nmIn]
  have hi' : i = 8 := by omega
  subst hi'
  have c1 : ¬ ((8 : Nat) : Int) < 8 := by omega
  have hi0 : ¬ ((8 : Nat) = 0) := by omega
  simp only [if_neg hi0]
  generalize nbK v 8 = s at *
  obtain ⟨l, n⟩ := s
  simp only at hnl ⊢
  have htl : List.take 8 (List.drop 0 l) = l := by rw [List.drop_zero]; exact List.take_of_length_le (by omega)
  refine W.seqK fun K0 hK0 => ?_
  refine W.seqK fun K hK => W.regionK tt_ok ?_
  simp only [decide_false, exOps_nil, exOps_cons, exOp_eq, nx_eq, cur_eq, stepQ, ev, ofV, lk, putT, erA, inB, opt, bnd, req, ret, onQ, ap, binG, binF, intF, true_and, and_self, Nat.reduceEqDiff, Nat.reduceLT, Nat.reduceAdd, if_true, if_false, c1]
  refine hK _ ?_
  clear hK K
  refine W.cond (b := false) (by simp only [ev, lk, Nat.reduceEqDiff, if_true, if_false]) (fun h => absurd h (by simp)) (fun _ => W.exit ?_)
  simp only [thn_normal, thn_exit, inb_exit, if_true]
  clear hK0 K0
  refine hKx _ ?_
  refine W.seqK fun K hK => W.regionK tt_ok ?_
  simp only [exOps_nil, exOps_cons, exOp_eq, exCall_eq, nx_eq, cur_eq, evL, stepQ, ev, lk, putT, erA, inB, opt, bnd, req, ret, onQ, ap, up, er, bltQ, bltV, appR, appQ, appV, srcQ, Row.len, Row.sz, Row.take, Row.drop, Row.app, Ent.row, and_true, true_and, and_self, or_false, Nat.reduceEqDiff, Nat.reduceLT, Nat.reduceLeDiff, Nat.reduceAdd, Nat.le_refl, Nat.zero_add, if_true, if_false, Option.bind_some, Option.map_some, tt_5, tt_22, htl, hnl, List.take_length]
  refine ⟨by omega, ?_⟩
  refine hK _ ?_
  clear hK K
  rw [show (L ++ l).length = L.length + 8 by rw [List.length_append, hnl]]
  refine W.ret ?_
  simp only [fin_ret, finB, resQ, resV, leL, AV.nmIn, entsIn, lk, opt, bnd, req, ret, onQ, AV.isTup, and_true, true_and, and_self, Nat.reduceEqDiff, if_true, if_false]
  simp [Nm, lk, Ent.nmIn, Row.nmIn]
theorem fill_own (Y : Nat) (b : List Int) (hb : b.length ≤ 100000) : FnR Tryd.prog G 30 [.lstI .u8 b] [] (.sl Y 1 0 (filN b).length) [(Y, .vec 5 (.ints .u8 (filN b)))] := by
  have h := (fill_fn0 b hb).rename 864 Y
  have e : swp 864 Y 864 = Y := by simp [swp]
  simpa only [AV.map, enMap, Ent.map, Row.map, e] using h
theorem call30 : Callable Tryd.prog 30 := ⟨_, Tryd.func30, by kernel_rfl, by kernel_rfl⟩
end Go.Proofs.YtageadccfdbmjaaDoor
