/- The reference's folding. -/
import Derived.Test.YtakgcmponelbeaaDoorAgT
-- TT 3 4 73
set_option linter.unusedVariables false
set_option linter.unusedSimpArgs false
namespace Go.Proofs.YtakgcmponelbeaaDoor.Tg
open Sx Pl
set_option maxRecDepth 100000
set_option maxHeartbeats 4000000
theorem call35 : Callable Tryd.prog 35 := ⟨_, Tryd.func35, by kernel_rfl, by kernel_rfl⟩
theorem folded_fn (xs : List Int) (Ke : Nat) (hl : xs.length = 40) (hx : Bd 1000000000 xs) (h0 : 0 ≤ num xs ∧ num xs < 115792089237316195423570985008687907853269984665640564039457584007913129639936) (hK : vS (num xs) Ke < tM) (hlt : ∀ k, k < Ke → tM ≤ vS (num xs) k) :
    FnR Tryd.prog G 34 [.lstI .i64 xs] [] (.sl 32 1 0 17) [(32, .vec 3 (.ints .i64 (byt (mF Ke) (vS (num xs) Ke))))] := by
  refine FnR.of_walk (m := 86) (n0 := 0) tt_ok Tryd.func34 rfl rfl (by simp) (by simp [nmH]) ?_
  rw [show Tryd.f34.results.toList = [.tmp 2] from rfl]
  refine W.seqK fun K hK => W.regionK tt_ok ?_
  simp only [exOps_nil, exOps_cons, exOp_eq, nx_eq, cur_eq, stepQ, ev, ofV, parT, putT, erA, inB, opt, ret, onQ, ap, true_and, Nat.reduceLT, Nat.zero_add, if_false, reduceCtorEq]
  refine hK _ ?_
  clear hK K
  refine W.seqK fun K hK => W.regionK tt_ok ?_
  simp only [exOps_cons, exOp_eq, exCall_eq, nx_eq, cur_eq, evL, stepQ, ev, ofV, lk, putT, erA, inB, opt, ret, onQ, ap, true_and, Nat.reduceEqDiff, Nat.reduceLT, Nat.reduceAdd, if_true, if_false, reduceCtorEq, Option.bind_some, Option.map_some]
  have c0 := carry_at 32 xs 17 40 hx (by omega) (by omega) (by omega) (by omega) (by have := vS_lt h0 0; exact this) (by omega)
  refine CallK.with [] [(32, .vec 3 (.ints .i64 (byt 40 (num xs))))] _ _ c0 call35 (by simp only [AV.nmIn, bnd, req, ret, onQ, AV.isTup, isTupL, true_and, and_self, Bool.false_eq_true, List.append_nil, vw.vwL, vw, AV.free, Bool.or_self]; all_goals (and_intros <;> first | exact AV.subL_refl _ | omega | rfl | (simp []; done) | (simp [AV.subL, AV.sub, entsFree]; done))) (by simp [leL]) (by intro n hn; first | (left; revert hn; simp [Nm, lk]; done) | (right; revert hn; simp only [Nm, lk]; split <;> simp <;> omega)) (by simp [entsIn]) ?_
  simp only [callDel, exOps_nil, exOps_cons, exOp_eq, nx_eq, cur_eq, stepQ, ev, lk, putT, erA, inB, opt, ret, onQ, ap, up, er, true_and, Nat.reduceEqDiff, Nat.reduceLT, Nat.reduceAdd, if_true, if_false, reduceCtorEq, List.nil_append, List.map_cons, List.map_nil, List.reverse_cons, List.reverse_nil]
  refine hK _ ?_
  clear hK K
  refine W.blockK ?_
  refine W.loopS (fun k : Nat => k ≤ Ke) (fun k => ⟨[(3, .sl 32 1 0 (mF k))], [(32, .vec 3 (.ints .i64 (byt (mF k) (vS (num xs) k))))], 1024, 86⟩) (fun k => Ke - k) 0 (by simp) (by simp [wk, leL, lk, nmT, nmE, nmH, AV.nmIn, Ent.nmIn, Row.nmIn, mF, vS]) ?_
  intro k hk K3 hK3
  have hM := mF_ok k
  have hv := vS_range h0 k
  have hvl := vS_lt h0 k
  have hnext : vS (num xs) (k + 1) = vS (num xs) k % tM + 5 * (vS (num xs) k / tM) := rfl
  have hdone : vS (num xs) k < tM → k = Ke := fun h => by
    rcases Nat.lt_or_ge k Ke with c | c
    · have := hlt k c; omega
    · omega
  have hdone2 : ¬ vS (num xs) k < tM → k < Ke := fun h => by
    rcases Nat.lt_or_ge k Ke with c | c
    · exact c
    · have : k = Ke := by omega
      rw [this] at h; exact absurd hK h
  have hv0 := hv.1
  have hval : mF (k + 1) = 17 := rfl
  obtain ⟨M, hMe⟩ : ∃ M, mF k = M := ⟨_, rfl⟩
  obtain ⟨v, hve⟩ : ∃ v, vS (num xs) k = v := ⟨_, rfl⟩
  simp only [hMe, hve] at hM hv hvl hnext hdone hdone2 hv0 ⊢
  have hdl : (byt M v).length = M := byt_len M v
  have hd := byt_bd M v
  refine W.blockK ?_
  refine W.seqK fun K hK => W.regionK tt_ok ?_
  simp only [exOps_nil, exOps_cons, exOp_eq, nx_eq, cur_eq, stepQ, ev, ofV, putT, erA, inB, opt, ret, onQ, ap, true_and, Nat.reduceEqDiff, Nat.reduceLT, Nat.reduceAdd, if_false]
  refine hK _ ?_
  clear hK K
  refine W.seqK fun Kz hKz => ?_
  refine W.seqK fun K hK => W.regionK tt_ok ?_
  simp only [exOps_nil, exOps_cons, exOp_eq, nx_eq, cur_eq, stepQ, ev, ofV, putT, erA, inB, opt, ret, onQ, ap, true_and, Nat.reduceEqDiff, Nat.reduceLT, Nat.reduceAdd, if_false]
  refine hK _ ?_
  clear hK K
  refine W.blockK ?_
  refine W.loopK (fun j : Nat => 17 + j ≤ M) (fun j => ⟨[(3, .sl 32 1 0 M), (4, .int .i64 (hiN (byt M v) j)), (5, .int .i64 ((17 + j : Nat) : Int))], [(32, .vec 3 (.ints .i64 (byt M v)))], 2048, 86⟩) (fun j => M - j) 0 (by omega) (by simp [wk, leL, lk, nmT, nmE, nmH, AV.nmIn, Ent.nmIn, Row.nmIn, hiN]) ?_
  · intro j hj K4 hK4
    refine W.seqK fun K hK => ?_
    refine W.seqK fun K hK => W.regionK tt_ok ?_
    simp only [exOps_nil, exOps_cons, exOp_eq, exCall_eq, nx_eq, cur_eq, evL, stepQ, ev, lk, putT, erA, inB, opt, bnd, req, ret, onQ, ap, binG, binF, intF, bltQ, bltV, lenF, true_and, and_self, or_false, Nat.reduceEqDiff, Nat.reduceLT, Nat.reduceAdd, if_true, if_false, List.getElem?_cons_zero, Option.bind_some, Option.map_some, tt_73]
    refine hK _ ?_
    clear hK K
    refine W.cond (b := decide (((17 + j : Nat) : Int) < M)) (by simp only [ev, lk, Nat.reduceEqDiff, if_true, if_false]) (fun hb => W.skip ?_) (fun hb => W.exit ?_)
    · rw [thn_normal]
      have hlt : 17 + j < M := by have := of_decide_eq_true hb; omega
      have hhi := hiN_ok hd j
      refine hK _ ?_
      clear hK K
      refine W.seqK fun K hK => W.blockK ?_
      refine W.region tt_ok ?_
      simp only [exOps_nil, exOps_cons, exOp_eq, exCall_eq, nx_eq, cur_eq, evL, stepQ, ev, lk, putT, erA, inB, opt, bnd, req, ret, onQ, ap, Kd.elem, ixA, asI, ldP, ldE, Kd.agg, bltQ, bltV, thn_normal, inb_normal, and_true, true_and, or_false, Nat.reduceEqDiff, Nat.reduceLT, Nat.reduceAdd, Int.toNat_natCast, Nat.zero_add, if_true, if_false, Bool.false_eq_true, Option.bind_some, Option.map_some, tt_3, tt_73]
      repeat (refine ⟨by omega, ?_⟩)
      refine hK _ ?_
      clear hK K
      refine W.region tt_ok ?_
      simp only [exOps_nil, exOps_cons, exOp_eq, nx_eq, cur_eq, stepQ, ev, ofV, lk, putT, erA, inB, opt, bnd, req, ret, onQ, ap, binG, binF, intF, thn_normal, true_and, and_self, Nat.reduceEqDiff, Nat.reduceLT, Nat.reduceAdd, if_true, if_false, wrap_up (17 + j) (by omega)]
      refine hK4 _ (j + 1) (by omega) (by omega) ?_
      simp only [show 17 + (j + 1) = 17 + j + 1 from rfl]
      simp [wk, leL, lk, nmT, nmE, nmH, AV.nmIn, Ent.nmIn, Row.nmIn, hiN]
    · simp only [fin_normal, finB, resQ, leL, AV.nmIn, entsIn, lk, opt, onQ, thn_normal, thn_exit, inb_exit, and_true, false_and, Nat.reduceEqDiff, if_true, if_false, reduceCtorEq]
      clear hK K
      refine hKz _ ?_
      clear hKz Kz hK4 K4
      have hjM : j = M - 17 := by have := of_decide_eq_false hb; omega
      rw [hjM]
      have h16 : (byt M v).getD 16 0 = v / 256 ^ 16 % 256 := byt_get M v 16 (by omega)
      have e16 : (256 : Int) ^ 16 = 340282366920938463463374607431768211456 := rfl
      have e17 : (256 : Int) ^ 17 = 87112285931760246646623899502532662132736 := rfl
      have hhi := hiN_ok hd (M - 17)
      obtain ⟨z, hz⟩ : ∃ z, hiN (byt M v) (M - 17) = z := ⟨_, rfl⟩
      by_cases hf : v < tM
      · have hz0 : z = 0 := by rw [← hz]; exact hiN_lt hv0 (by rw [e17]; unfold tM at hf; omega)
        have h4 : (byt M v).getD 16 0 < 4 := by rw [h16, e16]; unfold tM at hf; omega
        have hke := hdone hf
        subst hke
        subst hz0
        simp only [hz]
        refine W.seqK fun K hK => ?_
        refine W.seqK fun K hK => W.regionK tt_ok ?_
        simp only [↓gTT, ↓nTT, decide_true, exOps_nil, exOps_cons, exOp_eq, nx_eq, cur_eq, stepQ, ev, ofV, lk, putT, erA, inB, opt, bnd, req, ret, onQ, ap, binG, binF, intF, pickF, Kd.elem, ixA, asI, ldP, ldE, Kd.agg, and_true, true_and, and_self, Nat.reduceEqDiff, Nat.reduceLT, Nat.reduceAdd, Int.reduceLE, Int.reduceToNat, Nat.zero_add, if_true, if_false, Bool.false_eq_true, List.getElem?_cons_zero, List.getElem?_cons_succ, Option.bind_some, tt_3, tt_73, h4, beq_self_eq_true]
        repeat (refine ⟨by omega, ?_⟩)
        refine hK _ ?_
        clear hK K
        refine W.cond (b := true) (by simp only [ev, lk, Nat.reduceEqDiff, if_true, if_false]) (fun _ => ?_) (fun h => absurd h (by simp))
        refine W.seqK fun K hK => W.regionK tt_ok ?_
        simp only [exOps_nil, exOps_cons, exOp_eq, nx_eq, cur_eq, stepQ, ev, ofV, lk, putT, erA, inB, opt, bnd, req, ret, onQ, ap, slF, bd, bds, and_true, true_and, Nat.reduceEqDiff, Nat.reduceLT, Nat.reduceAdd, Nat.reduceSub, Int.reduceLE, Int.reduceToNat, Nat.add_zero, if_true, if_false, tt_3, tt_73]
        repeat (refine ⟨by omega, ?_⟩)
        refine hK _ ?_
        clear hK K
        refine W.ret ?_
        simp only [fin_ret, finB, resQ, resV, leL, AV.nmIn, entsIn, lk, opt, bnd, req, ret, onQ, AV.isTup, thn_ret, inb_ret, and_true, true_and, and_self, Nat.reduceEqDiff, if_true, if_false]
        rw [hMe, hve]
        simp [Nm, lk, Ent.nmIn, Row.nmIn]
      · have hkl := hdone2 hf
        refine W.joinK ⟨[(3, .sl 32 1 0 M)], [(32, .vec 3 (.ints .i64 (byt M v)))], 2500, 86⟩ (fun Kj hKj => ?_) ?_
        · by_cases hz0 : z = 0
          · have h4 : ¬ (byt M v).getD 16 0 < 4 := by
              have := hiN_ge hv0 hvl (by omega) (hz.trans hz0)
              rw [h16, e16]; rw [e17] at this; unfold tM at hf; omega
            subst hz0
            simp only [hz]
            refine W.seqK fun K hK => W.regionK tt_ok ?_
            simp only [↓gTT, ↓nTT, decide_false, exOps_nil, exOps_cons, exOp_eq, nx_eq, cur_eq, stepQ, ev, ofV, lk, putT, erA, inB, opt, bnd, req, ret, onQ, ap, binG, binF, intF, pickF, Kd.elem, ixA, asI, ldP, ldE, Kd.agg, and_true, true_and, and_self, Nat.reduceEqDiff, Nat.reduceLT, Nat.reduceAdd, Int.reduceLE, Int.reduceToNat, Nat.zero_add, if_true, if_false, Bool.false_eq_true, List.getElem?_cons_zero, List.getElem?_cons_succ, Option.bind_some, tt_3, tt_73, h4, beq_self_eq_true]
            repeat (refine ⟨by omega, ?_⟩)
            refine hK _ ?_
            clear hK K
            refine W.cond (b := false) (by simp only [ev, lk, Nat.reduceEqDiff, if_true, if_false]) (fun h => absurd h (by simp)) (fun _ => W.skip ?_)
            rw [thn_normal]
            refine hKj _ ?_
            simp [wk, leL, lk, nmT, nmE, nmH, AV.nmIn, Ent.nmIn, Row.nmIn]
          · have hz1 : (z == 0) = false := by rw [beq_eq_false_iff_ne]; exact hz0
            simp only [hz]
            refine W.seqK fun K hK => W.regionK tt_ok ?_
            simp only [↓gFT, ↓nFT, exOps_nil, exOps_cons, exOp_eq, nx_eq, cur_eq, stepQ, ev, ofV, lk, putT, erA, inB, opt, bnd, req, ret, onQ, ap, binG, binF, intF, pickF, true_and, and_self, Nat.reduceEqDiff, Nat.reduceLT, Nat.reduceAdd, if_true, if_false, List.getElem?_cons_zero, List.getElem?_cons_succ, Option.bind_some, hz1]
            repeat (refine ⟨by omega, ?_⟩)
            refine hK _ ?_
            clear hK K
            refine W.cond (b := false) (by simp only [ev, lk, Nat.reduceEqDiff, if_true, if_false]) (fun h => absurd h (by simp)) (fun _ => W.skip ?_)
            rw [thn_normal]
            refine hKj _ ?_
            simp [wk, leL, lk, nmT, nmE, nmH, AV.nmIn, Ent.nmIn, Row.nmIn]
        · have htk : List.take 17 (byt M v) = byt 17 v := by
            obtain ⟨q, rfl⟩ : ∃ q, M = 17 + q := ⟨M - 17, by omega⟩
            rw [byt_app, List.take_append_of_le_length (by rw [byt_len]; exact Nat.le_refl _), List.take_of_length_le (by rw [byt_len]; exact Nat.le_refl _)]
          have hl17 : (byt 17 v).length = 17 := byt_len 17 v
          have g16 : (byt 17 v).getD 16 0 = v / 256 ^ 16 % 256 := byt_get 17 v 16 (by omega)
          have q16 : Int.tmod (v / 256 ^ 16 % 256) 4 = v / 256 ^ 16 % 256 % 4 := Int.tmod_eq_emod_of_nonneg (by omega)
          refine W.seqK fun K hK => W.regionK tt_ok ?_
          simp only [exOps_nil, exOps_cons, exOp_eq, exCall_eq, nx_eq, cur_eq, evL, evP, stepQ, ev, ofV, lk, putT, erA, inB, opt, bnd, req, ret, onQ, ap, up, er, intsOf, bltQ, bltV, slF, bd, bds, appQ, appV, srcQ, Row.len, Row.sz, Row.take, Row.drop, Row.app, Ent.row, bldA, bslQ, zeroCs, cellsRow, and_true, true_and, and_self, or_false, Nat.reduceEqDiff, Nat.reduceLT, Nat.reduceLeDiff, Nat.reduceAdd, Nat.reduceSub, Nat.reduceMul, Int.reduceLE, Int.reduceToNat, Nat.le_refl, Nat.zero_le, Nat.add_zero, Nat.zero_add, if_true, if_false, Option.bind_some, Option.map_some, List.append_nil, List.nil_append, tt_3, tt_73, List.drop_zero, htk, hl17, List.take_zero, List.nil_append, List.length_replicate]
          repeat (refine ⟨by omega, ?_⟩)
          refine hK _ ?_
          clear hK K
          refine W.seqK fun K hK => W.regionK tt_ok ?_
          simp only [exOps_nil, exOps_cons, exOp_eq, nx_eq, cur_eq, stepQ, ev, ofV, lk, putT, erA, inB, opt, bnd, req, ret, onQ, ap, up, er, binG, binF, intF, Kd.elem, ixA, asI, ldP, ldE, Kd.agg, stP, stE, and_true, true_and, Nat.reduceEqDiff, Nat.reduceLT, Nat.reduceAdd, Int.reduceLE, Int.reduceToNat, Nat.zero_add, if_true, if_false, Bool.false_eq_true, ne_eq, tt_3, tt_73, g16, q16]
          repeat (refine ⟨by omega, ?_⟩)
          rw [show (byt 17 v).set 16 (v / 256 ^ 16 % 256 % 4) = oS v from rfl]
          refine hK _ ?_
          clear hK K
          refine W.seqK fun Kz hKz => ?_
          refine W.seqK fun K hK => W.regionK tt_ok ?_
          simp only [exOps_nil, exOps_cons, exOp_eq, nx_eq, cur_eq, stepQ, ev, ofV, putT, erA, inB, opt, ret, onQ, ap, true_and, Nat.reduceEqDiff, Nat.reduceLT, Nat.reduceAdd, if_false]
          refine hK _ ?_
          clear hK K
          refine W.blockK ?_
          refine W.loopK (fun j : Nat => 16 + j ≤ M) (fun j => ⟨[(3, .sl 32 1 0 M), (6, .sl 2548 1 0 17), (7, .int .i64 ((16 + j : Nat) : Int))], [(32, .vec 3 (.ints .i64 (byt M v))), (2548, .vec 3 (.ints .i64 (fO (byt M v) (oS v) j)))], 4000, 86⟩) (fun j => M - j) 0 (by omega) (by simp [wk, leL, lk, nmT, nmE, nmH, AV.nmIn, Ent.nmIn, Row.nmIn, fO]) ?_
          · intro j hj K4 hK4
            refine W.seqK fun K hK => ?_
            refine W.seqK fun K hK => W.regionK tt_ok ?_
            simp only [exOps_nil, exOps_cons, exOp_eq, exCall_eq, nx_eq, cur_eq, evL, stepQ, ev, lk, putT, erA, inB, opt, bnd, req, ret, onQ, ap, binG, binF, intF, bltQ, bltV, lenF, true_and, and_self, or_false, Nat.reduceEqDiff, Nat.reduceLT, Nat.reduceAdd, if_true, if_false, List.getElem?_cons_zero, Option.bind_some, Option.map_some, tt_73]
            refine hK _ ?_
            clear hK K
            refine W.cond (b := decide (((16 + j : Nat) : Int) < M)) (by simp only [ev, lk, Nat.reduceEqDiff, if_true, if_false]) (fun hb => W.skip ?_) (fun hb => W.exit ?_)
            · rw [thn_normal]
              have hltj : 16 + j < M := by have := of_decide_eq_true hb; omega
              refine hK _ ?_
              clear hK K
              refine W.seqK fun Kr hKr => W.blockK ?_
              have hda := hd (16 + j)
              have hdb := hd (17 + j)
              have hol : (fO (byt M v) (oS v) j).length = 17 := by rw [fO_len, oS_len]
              have hxj := xJ_ok hd j
              have hob := fO_bd hd (oS_bd v) j j
              rw [if_neg (by omega)] at hob
              have s1 : Int.tdiv ((byt M v).getD (16 + j) 0) 4 = (byt M v).getD (16 + j) 0 / 4 := Int.tdiv_eq_ediv_of_nonneg hda.1
              have s2 : IntKind.i64.wrap ((byt M v).getD (16 + j) 0 / 4) = (byt M v).getD (16 + j) 0 / 4 := by rw [IntKind.wrap_i64]; omega
              have s3 : IntKind.i64.wrap (((16 + j : Nat) : Int) + 1) = ((17 + j : Nat) : Int) := by rw [IntKind.wrap_i64]; omega
              have s4 : Int.tmod ((byt M v).getD (17 + j) 0) 4 = (byt M v).getD (17 + j) 0 % 4 := Int.tmod_eq_emod_of_nonneg hdb.1
              have s5 : IntKind.i64.wrap ((byt M v).getD (17 + j) 0 % 4 * 64) = (byt M v).getD (17 + j) 0 % 4 * 64 := by rw [IntKind.wrap_i64]; omega
              have s6 : IntKind.i64.wrap ((byt M v).getD (16 + j) 0 / 4 + (byt M v).getD (17 + j) 0 % 4 * 64) = (byt M v).getD (16 + j) 0 / 4 + (byt M v).getD (17 + j) 0 % 4 * 64 := by rw [IntKind.wrap_i64]; omega
              have s7 : IntKind.i64.wrap (((16 + j : Nat) : Int) - 16) = (j : Int) := by rw [IntKind.wrap_i64]; omega
              have s8 : IntKind.i64.wrap (5 * xJ (byt M v) j) = 5 * xJ (byt M v) j := by rw [IntKind.wrap_i64]; omega
              have s9 : IntKind.i64.wrap ((fO (byt M v) (oS v) j).getD j 0 + 5 * xJ (byt M v) j) = (fO (byt M v) (oS v) j).getD j 0 + 5 * xJ (byt M v) j := by rw [IntKind.wrap_i64]; omega
              refine W.seqK fun K hK => W.regionK tt_ok ?_
              simp only [exOps_nil, exOps_cons, exOp_eq, nx_eq, cur_eq, stepQ, ev, ofV, lk, putT, erA, inB, opt, bnd, req, ret, onQ, ap, binG, binF, intF, Kd.elem, ixA, asI, ldP, ldE, Kd.agg, and_true, true_and, Nat.reduceEqDiff, Nat.reduceLT, Nat.reduceAdd, Int.toNat_natCast, Nat.zero_add, if_true, if_false, Bool.false_eq_true, ne_eq, tt_3, tt_73, s1, s2]
              repeat (refine ⟨by omega, ?_⟩)
              refine hK _ ?_
              clear hK K
              refine W.joinK ⟨[(8, .int .i64 (xJ (byt M v) j)), (3, .sl 32 1 0 M), (6, .sl 2548 1 0 17), (7, .int .i64 ((16 + j : Nat) : Int))], [(32, .vec 3 (.ints .i64 (byt M v))), (2548, .vec 3 (.ints .i64 (fO (byt M v) (oS v) j)))], 4600, 86⟩ (fun Kj hKj => ?_) ?_
              · refine W.seqK fun K hK => W.regionK tt_ok ?_
                simp only [exOps_nil, exOps_cons, exOp_eq, exCall_eq, nx_eq, cur_eq, evL, stepQ, ev, ofV, lk, putT, erA, inB, opt, bnd, req, ret, onQ, ap, binG, binF, intF, bltQ, bltV, lenF, true_and, and_self, or_false, Nat.reduceEqDiff, Nat.reduceLT, Nat.reduceAdd, if_true, if_false, List.getElem?_cons_zero, Option.bind_some, Option.map_some, tt_73, s3]
                repeat (refine ⟨by omega, ?_⟩)
                refine hK _ ?_
                clear hK K
                refine W.cond (b := decide (((17 + j : Nat) : Int) < M)) (by simp only [ev, lk, Nat.reduceEqDiff, if_true, if_false]) (fun hc => ?_) (fun hc => W.skip ?_)
                · have hcl : 17 + j < M := by have := of_decide_eq_true hc; omega
                  have hxe : xJ (byt M v) j = (byt M v).getD (16 + j) 0 / 4 + (byt M v).getD (17 + j) 0 % 4 * 64 := by unfold xJ; rw [if_pos (by omega)]
                  refine W.region tt_ok ?_
                  simp only [exOps_nil, exOps_cons, exOp_eq, nx_eq, cur_eq, stepQ, ev, ofV, lk, putT, erA, inB, opt, bnd, req, ret, onQ, ap, binG, binF, intF, Kd.elem, ixA, asI, ldP, ldE, Kd.agg, thn_normal, and_true, true_and, and_self, Nat.reduceEqDiff, Nat.reduceLT, Nat.reduceAdd, Int.toNat_natCast, Nat.zero_add, if_true, if_false, Bool.false_eq_true, ne_eq, tt_3, tt_73, s3, s4, s5, s6]
                  repeat (refine ⟨by omega, ?_⟩)
                  refine hKj _ ?_
                  rw [hxe]
                  simp [wk, leL, lk, nmT, nmE, nmH, AV.nmIn, Ent.nmIn, Row.nmIn]
                · have hcl : ¬ 17 + j < M := by have := of_decide_eq_false hc; omega
                  have hxe : xJ (byt M v) j = (byt M v).getD (16 + j) 0 / 4 := by unfold xJ; rw [if_neg (by omega)]; omega
                  rw [thn_normal]
                  refine hKj _ ?_
                  rw [hxe]
                  simp [wk, leL, lk, nmT, nmE, nmH, AV.nmIn, Ent.nmIn, Row.nmIn]
              · refine W.seqK fun K hK => W.regionK tt_ok ?_
                simp only [exOps_nil, exOps_cons, exOp_eq, nx_eq, cur_eq, stepQ, ev, ofV, lk, putT, erA, inB, opt, bnd, req, ret, onQ, ap, binG, binF, intF, true_and, and_self, Nat.reduceEqDiff, Nat.reduceLT, Nat.reduceAdd, if_true, if_false, s7]
                repeat (refine ⟨by omega, ?_⟩)
                refine hK _ ?_
                clear hK K
                refine W.cond (b := decide ((j : Int) < 17)) (by simp only [ev, lk, Nat.reduceEqDiff, if_true, if_false]) (fun hc => ?_) (fun hc => W.skip ?_)
                · have hcl : j < 17 := by have := of_decide_eq_true hc; omega
                  have hfo : fO (byt M v) (oS v) (j + 1) = (fO (byt M v) (oS v) j).set j ((fO (byt M v) (oS v) j).getD j 0 + 5 * xJ (byt M v) j) := by rw [fO, if_pos hcl]
                  refine W.seqK fun K hK => W.regionK tt_ok ?_
                  simp only [exOps_nil, exOps_cons, exOp_eq, nx_eq, cur_eq, stepQ, ev, ofV, lk, putT, erA, inB, opt, bnd, req, ret, onQ, ap, binG, binF, intF, true_and, and_self, Nat.reduceEqDiff, Nat.reduceLT, Nat.reduceAdd, if_true, if_false, s7]
                  repeat (refine ⟨by omega, ?_⟩)
                  refine hK _ ?_
                  clear hK K
                  refine W.region tt_ok ?_
                  simp only [exOps_nil, exOps_cons, exOp_eq, nx_eq, cur_eq, stepQ, ev, ofV, lk, putT, erA, inB, opt, bnd, req, ret, onQ, ap, up, er, binG, binF, intF, Kd.elem, ixA, asI, ldP, ldE, Kd.agg, stP, stE, thn_normal, inb_normal, and_true, true_and, and_self, Nat.reduceEqDiff, Nat.reduceLT, Nat.reduceAdd, Int.toNat_natCast, Nat.zero_add, if_true, if_false, Bool.false_eq_true, tt_3, tt_73, s8, s9]
                  repeat (refine ⟨by omega, ?_⟩)
                  refine hKr _ ?_
                  clear hKr Kr
                  refine W.region tt_ok ?_
                  simp only [exOps_nil, exOps_cons, exOp_eq, nx_eq, cur_eq, stepQ, ev, ofV, lk, putT, erA, inB, opt, bnd, req, ret, onQ, ap, binG, binF, intF, thn_normal, true_and, and_self, Nat.reduceEqDiff, Nat.reduceLT, Nat.reduceAdd, if_true, if_false, wrap_up (16 + j) (by omega)]
                  refine hK4 _ (j + 1) (by omega) (by omega) ?_
                  simp only [show 16 + (j + 1) = 16 + j + 1 from rfl, hfo]
                  simp [wk, leL, lk, nmT, nmE, nmH, AV.nmIn, Ent.nmIn, Row.nmIn]
                · have hcl : ¬ j < 17 := by have := of_decide_eq_false hc; omega
                  have hfo : fO (byt M v) (oS v) (j + 1) = fO (byt M v) (oS v) j := by rw [fO, if_neg hcl]
                  simp only [thn_normal, inb_normal]
                  refine hKr _ ?_
                  clear hKr Kr
                  refine W.region tt_ok ?_
                  simp only [exOps_nil, exOps_cons, exOp_eq, nx_eq, cur_eq, stepQ, ev, ofV, lk, putT, erA, inB, opt, bnd, req, ret, onQ, ap, binG, binF, intF, thn_normal, true_and, and_self, Nat.reduceEqDiff, Nat.reduceLT, Nat.reduceAdd, if_true, if_false, wrap_up (16 + j) (by omega)]
                  refine hK4 _ (j + 1) (by omega) (by omega) ?_
                  simp only [show 16 + (j + 1) = 16 + j + 1 from rfl, hfo]
                  simp [wk, leL, lk, nmT, nmE, nmH, AV.nmIn, Ent.nmIn, Row.nmIn]
            · simp only [fin_normal, finB, resQ, leL, AV.nmIn, entsIn, lk, opt, onQ, thn_normal, thn_exit, inb_exit, and_true, false_and, Nat.reduceEqDiff, if_true, if_false, reduceCtorEq]
              clear hK K
              refine hKz _ ?_
              clear hKz Kz hK4 K4
              have hjM : j = M - 16 := by have := of_decide_eq_false hb; omega
              rw [hjM]
              have hfl : (fO (byt M v) (oS v) (M - 16)).length = 17 := by rw [fO_len, oS_len]
              have hfb : Bd 1000000000 (fO (byt M v) (oS v) (M - 16)) := fun i => by
                have := fO_bd hd (oS_bd v) (M - 16) i
                split at this <;> omega
              have hfv := fO_val ⟨hv0, hv.2.1⟩ hvl hM.1 hM.2
              rw [← hnext] at hfv
              have hvl' := vS_lt h0 (k + 1)
              rw [hval] at hvl'
              have c1 := carry_at 4080 (fO (byt M v) (oS v) (M - 16)) 17 17 hfb (by omega) (by omega) (by omega) (by omega) (by rw [hfv]; exact hvl') (by omega)
              rw [hfv] at c1
              obtain ⟨F, hF⟩ : ∃ F, fO (byt M v) (oS v) (M - 16) = F := ⟨_, rfl⟩
              have hFt : List.take 17 F = F := List.take_of_length_le (by rw [← hF, hfl]; exact Nat.le_refl _)
              rw [hF] at c1 hfl ⊢
              refine W.region tt_ok ?_
              simp only [exOps_cons, exOp_eq, exCall_eq, nx_eq, cur_eq, evL, stepQ, ev, ofV, lk, putT, erA, inB, opt, ret, onQ, ap, true_and, Nat.reduceEqDiff, Nat.reduceLT, Nat.reduceAdd, if_true, if_false, Option.bind_some, Option.map_some]
              rw [← hFt] at c1
              refine CallK.with [] [(4080, .vec 3 (.ints .i64 (byt 17 (vS (num xs) (k + 1)))))] _ _ c1 call35 (by simp only [Bool.or_false, AV.nmIn, lk, opt, bnd, req, ret, onQ, AV.isTup, isTupL, Ent.row, and_true, true_and, and_self, Nat.reduceEqDiff, Nat.zero_add, if_true, if_false, forall_const, List.append_nil, vw.vwL, vw, viewR, AV.free, Ent.row, Bool.or_self]; all_goals (and_intros <;> first | exact AV.subL_refl _ | omega | rfl | (simp [AV.subL_refl]; done) | (simp [AV.subL, AV.sub, entsFree]; done))) (by simp [leL]) (by intro n hn; first | (left; revert hn; simp [Nm, lk]; done) | (right; revert hn; simp only [Nm, lk]; split <;> simp <;> omega)) (by simp [entsIn]) ?_
              simp only [callDel, exOps_nil, exOps_cons, exOp_eq, nx_eq, cur_eq, stepQ, ev, lk, putT, erA, inB, opt, ret, onQ, ap, up, er, thn_normal, inb_normal, true_and, Nat.reduceEqDiff, Nat.reduceLT, Nat.reduceAdd, if_true, if_false, List.nil_append, List.map_cons, List.map_nil, List.reverse_cons, List.reverse_nil]
              refine hK3 _ (k + 1) 4080 32 (by omega) (by omega) ⟨⟨by simp [Nm, lk], by simp [Nm, lk]⟩, by simp, by simp⟩ ?_
              simp [St.swap, tmMap, enMap, swp, AV.map, Ent.map, Row.map, wk, leL, lk, nmT, nmE, nmH, AV.nmIn, Ent.nmIn, Row.nmIn, hval]
end Go.Proofs.YtakgcmponelbeaaDoor.Tg
