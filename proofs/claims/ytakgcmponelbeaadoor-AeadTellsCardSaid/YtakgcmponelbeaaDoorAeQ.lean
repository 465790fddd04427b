/- The reference: tag, Seal, Open. -/
import Derived.Test.YtakgcmponelbeaaDoorAeO
import Derived.Test.YtakgcmponelbeaaDoorAgW
import Derived.Test.YtakgcmponelbeaaDoorAmV
-- TT 3 4 5 9 22 23 24 36 45 51
set_option linter.unusedVariables false
set_option linter.unusedSimpArgs false
namespace Go.Proofs.YtakgcmponelbeaaDoor
open Sx
open Sm (xorO xorO_len blockS)
open Tg (sumN)
set_option maxRecDepth 100000
set_option maxHeartbeats 2000000
theorem call10 : Callable Tryd.prog 10 := ⟨_, Tryd.func10, by kernel_rfl, by kernel_rfl⟩
theorem call12 : Callable Tryd.prog 12 := ⟨_, Tryd.func12, by kernel_rfl, by kernel_rfl⟩
theorem call16 : Callable Tryd.prog 16 := ⟨_, Tryd.func16, by kernel_rfl, by kernel_rfl⟩
theorem call17 : Callable Tryd.prog 17 := ⟨_, Tryd.func17, by kernel_rfl, by kernel_rfl⟩
theorem call18 : Callable Tryd.prog 18 := ⟨_, Tryd.func18, by kernel_rfl, by kernel_rfl⟩
theorem call23 : Callable Tryd.prog 23 := ⟨_, Tryd.func23, by kernel_rfl, by kernel_rfl⟩
theorem call25 : Callable Tryd.prog 25 := ⟨_, Tryd.func25, by kernel_rfl, by kernel_rfl⟩
theorem call26 : Callable Tryd.prog 26 := ⟨_, Tryd.func26, by kernel_rfl, by kernel_rfl⟩
theorem lowL_bt (xs : List Int) (v : Int) (h : Bt xs) : ∀ k, Bt (lowL xs v k)
  | 0 => h
  | k + 1 => fun i => by
    have h1 := lowL_bt xs v h k
    rw [lowL, List.getD_eq_getElem?_getD]
    by_cases hi : i < (lowL xs v k).length
    · rw [List.getElem?_append_left hi, ← List.getD_eq_getElem?_getD]; exact h1 i
    · rw [List.getElem?_append_right (by omega)]
      cases hj : i - (lowL xs v k).length with
      | zero => simp only [List.getElem?_cons_zero, Option.getD_some]; rw [IntKind.wrap_u8]; omega
      | succ j => simp
theorem nonN_bt (n : Int) : Bt (nonN n) := lowL_bt _ _ (Bt.of_mem (by simp)) 8
theorem padL_len16 (xs : List Int) : (padL xs).length % 16 = 0 := by simp [padL]; omega
theorem padL_app (a c : List Int) : padL (padL a ++ c) = padL a ++ padL c := by
  have h := padL_len16 a
  rw [padL, padL, List.append_assoc]
  congr 3
  rw [List.length_append]
  rw [padL] at h
  omega
def kR (B : List Int) : Nat → List Int
  | 0 => List.replicate 32 0
  | k + 1 => (kR B k).set k (B.getD k 0)
theorem kR_len (B : List Int) : ∀ k, (kR B k).length = 32
  | 0 => by simp [kR]
  | k + 1 => by simp [kR, kR_len B k]
theorem kR_get (B : List Int) : ∀ n, n ≤ 32 → ∀ i, i < n → (kR B n).getD i 0 = B.getD i 0
  | 0, _, i, h => by omega
  | n + 1, hn, i, h => by
    have hl := kR_len B n
    rw [kR]
    by_cases hi : i = n
    · subst hi; rw [Sm.getD_set_self (by omega)]
    · rw [Sm.getD_set_ne (fun e => hi e.symm)]; exact kR_get B n (by omega) i (by omega)
theorem kR_eq (B : List Int) (h : 32 ≤ B.length) : kR B 32 = B.take 32 :=
  Sm.ext_getD (by rw [kR_len, List.length_take]; omega) (fun i hi => by rw [kR_len] at hi; rw [kR_get B 32 (Nat.le_refl _) i hi, Sm.getD_take hi])
theorem lowL_app (xs : List Int) (v : Int) : ∀ k, lowL xs v k = xs ++ lowL [] v k
  | 0 => by simp [lowL]
  | k + 1 => by rw [lowL, lowL_app xs v k, lowL, List.append_assoc]
theorem by_of {xs : List Int} (h : Bt xs) : Pl.By xs := fun x hx => by
  obtain ⟨i, hi, rfl⟩ := List.mem_iff_getElem.1 hx
  have := h i
  simpa [List.getD_eq_getElem?_getD, hi] using this
theorem Bt.app {a b : List Int} (ha : Bt a) (hb : Bt b) : Bt (a ++ b) := fun i => by
  rw [List.getD_eq_getElem?_getD]
  by_cases hi : i < a.length
  · rw [List.getElem?_append_left hi, ← List.getD_eq_getElem?_getD]; exact ha i
  · rw [List.getElem?_append_right (by omega), ← List.getD_eq_getElem?_getD]; exact hb _
theorem bt_rep (k : Nat) : Bt (List.replicate k 0) := fun i => by
  simp only [List.getD_eq_getElem?_getD, List.getElem?_replicate]; split <;> simp
theorem padL_bt {xs : List Int} (h : Bt xs) : Bt (padL xs) := Bt.app h (bt_rep _)
theorem macD_bt {ad c : List Int} (ha : Bt ad) (hc : Bt c) : Bt (macD ad c) := lowL_bt _ _ (lowL_bt _ _ (padL_bt (Bt.app (padL_bt ha) hc)) 8) 8
theorem macD_eq (ad c : List Int) : macD ad c = ((padL ad ++ padL c) ++ lowL [] ad.length 8) ++ lowL [] c.length 8 := by
  rw [macD, lowL_app (lowL _ _ _), lowL_app (padL _), padL_app]
theorem tagR_own (key : List Int) (n : Int) (ad c : List Int) (hk : key.length = 32) (hn : 0 ≤ n ∧ n < 18446744073709551616) (hK : Bt key) (hA : Bt ad) (hC : Bt c) (ha : ad.length ≤ 1000) (hc : c.length ≤ 1000) :
    FnR Tryd.prog G 18 [.agg [.ints .u8 32 key], .int .u64 n, .lstI .u8 ad, .lstI .u8 c] [] (.sl 1488 1 0 16) [(1488, .vec 5 (.ints .u8 (tagN key (nonN n) ad c)))] := by
  have hnl := nonN_len n
  have c17 := nonceR_fn n hn
  have c23 := Sm.blockR_same (key := key) (nonce := nonN n) 0 hk hnl hK (nonN_bt n)
  have hBl : (blockS key (nonN n) 0).length = 64 := Sm.outB_len _ _ _
  have hBB : Bt (blockS key (nonN n) 0) := Sm.outB_ok _ _ 64
  have hTl := tagN_len key (nonN n) ad c
  have c26 := Tg.sumR_fn ((blockS key (nonN n) 0).take 32) (macD ad c) (by rw [List.length_take, hBl]; rfl) (by_of (Sm.Bt.take' hBB 32)) (by_of (macD_bt hA hC)) (by
    have h1 := pad_len ad
    have h2 := pad_len (padL ad ++ c)
    rw [macD, lowL_len, lowL_len]
    rw [List.length_append] at h2
    omega)
  have hT : sumN ((blockS key (nonN n) 0).take 32) (macD ad c) = tagN key (nonN n) ad c := rfl
  rw [hT, ← kR_eq _ (by omega)] at c26
  have ca := padR_at 1072 ad (by omega)
  have cc := padR_at 1104 c (by omega)
  have c24 := lowR_ok ad.length (by omega)
  have c24' := lowR_ok c.length (by omega)
  have hpa := pad_len ad
  have hpc := pad_len c
  have hl8 : (lowL [] (ad.length : Int) 8).length = 8 := by rw [lowL_len]; rfl
  have hl8' : (lowL [] (c.length : Int) 8).length = 8 := by rw [lowL_len]; rfl
  rw [macD_eq] at c26
  generalize tagN key (nonN n) ad c = T at *
  generalize blockS key (nonN n) 0 = B at *
  generalize nonN n = N at *
  generalize padL ad = PA at *
  generalize padL c = PC at *
  generalize lowL [] (ad.length : Int) 8 = LA at *
  generalize lowL [] (c.length : Int) 8 = LC at *
  have hwa : IntKind.u64.wrap (ad.length : Int) = ad.length := by rw [IntKind.wrap_u64]; omega
  have hwc : IntKind.u64.wrap (c.length : Int) = c.length := by rw [IntKind.wrap_u64]; omega
  refine FnR.of_walk (m := 50) (n0 := 0) tt_ok Tryd.func18 rfl rfl (by simp) (by simp [nmH]) ?_
  rw [show Tryd.f18.results.toList = [.tmp 8] from rfl]
  refine W.seqK fun K hK => W.regionK tt_ok ?_
  simp only [exOps_nil, exOps_cons, exOp_eq, nx_eq, cur_eq, stepQ, ev, ofV, lk, parT, putT, erA, inB, opt, req, ret, onQ, ap, up, er, AV.isTup, true_and, and_self, Nat.reduceEqDiff, Nat.reduceLT, Nat.reduceAdd, Nat.zero_add, if_true, if_false, reduceCtorEq]
  refine hK _ ?_
  clear hK K
  refine W.seqK fun K hK => W.drawK [⟨0, true, []⟩, ⟨0, false, []⟩, ⟨0, true, [1]⟩, ⟨0, true, [0, 1, 2]⟩, ⟨1, false, []⟩, ⟨2, false, [0, 1, 2, 3, 4]⟩] mix tt_ok (by kernel_rfl) ?_
  simp only [decide_true, Bool.or_false, List.contains_cons, List.contains_nil, Nat.reduceBEq, exOp_eq, exCall_eq, exD_cons, nxD_eq, cur_eq, flI, flE, ownB, evL, stepQ, ev, lk, putT, erA, inB, opt, bnd, req, ret, onQ, ap, ldP, ldE, ldC, ldS, Kd.agg, comps, csize, takeI, takeC, dropC, true_and, and_self, Nat.reduceEqDiff, Nat.reduceLT, Nat.reduceLeDiff, Nat.reduceAdd, Nat.reduceSub, Nat.reduceDiv, Nat.sub_self, Nat.le_refl, Nat.add_zero, if_true, if_false, reduceCtorEq, Option.bind_some, Option.map_some, tt_22]
  refine CallK.pure _ _ c17 call17 (by simp only [AV.nmIn, bnd, req, ret, onQ, AV.isTup, isTupL, true_and, and_self, Bool.false_eq_true, List.append_nil, vw.vwL, vw, AV.free, AV.freeL, Bool.or_self]; all_goals (and_intros <;> first | exact AV.subL_refl _ | omega | rfl | (simp []; done) | (simp; exact AV.subL_refl _) | (simp [AV.subL, AV.sub]; done))) ?_
  simp only [decide_true, Bool.or_true, Bool.or_false, List.contains_cons, List.contains_nil, Nat.reduceBEq, exOp_eq, exCall_eq, exD_cons, nxD_eq, flI, flE, ownB, evL, ev, ofV, lk, putT, erA, inB, ap, true_and, Nat.reduceEqDiff, Nat.reduceLT, Nat.reduceAdd, Nat.reduceSub, Nat.reduceDiv, if_true, if_false, reduceCtorEq, Option.bind_some, Option.map_some]
  refine CallK.pure _ _ c23 call23 (by simp only [AV.nmIn, bnd, req, ret, onQ, AV.isTup, isTupL, true_and, and_self, Bool.false_eq_true, List.append_nil, vw.vwL, vw, AV.free, AV.freeL, Bool.or_self]; all_goals (and_intros <;> first | exact AV.subL_refl _ | omega | rfl | (simp []; done) | (simp; exact AV.subL_refl _) | (simp [AV.subL, AV.sub]; done))) ?_
  simp only [exOp_eq, exD_nil, exD_cons, nxD_eq, cur_eq, flI, ownB, ownL, stepQ, ev, lk, putT, erA, inB, opt, bnd, req, ret, onQ, ap, up, er, AV.isAgg, Kd.agg, comps, szL, csize, takeI, takeC, dropC, stP, stE, stC, stS, true_and, and_self, Nat.reduceEqDiff, Nat.reduceLT, Nat.reduceLeDiff, Nat.reduceAdd, Nat.reduceSub, Nat.sub_self, Nat.le_refl, Nat.add_zero, Nat.zero_add, if_true, if_false, reduceCtorEq, Option.bind_some, Option.map_some, List.append_nil, List.nil_append, tt_51]
  refine hK _ ?_
  clear hK K
  refine W.seqK fun K hK => W.regionK tt_ok ?_
  simp only [exOps_nil, exOps_cons, exOp_eq, nx_eq, cur_eq, stepQ, putT, erA, inB, opt, ret, onQ, ap, up, er, true_and, Nat.reduceEqDiff, Nat.reduceLT, Nat.reduceAdd, if_false, reduceCtorEq, tt_22]
  refine hK _ ?_
  clear hK K
  refine W.seqK fun Kz hKz => ?_
  refine W.seqK fun K hK => W.regionK tt_ok ?_
  simp only [exOps_nil, exOps_cons, exOp_eq, nx_eq, cur_eq, stepQ, ev, ofV, putT, erA, inB, opt, ret, onQ, ap, true_and, Nat.reduceEqDiff, Nat.reduceLT, Nat.reduceAdd, if_false, reduceCtorEq]
  refine hK _ ?_
  clear hK K
  refine W.blockK ?_
  refine W.loopK (fun k : Nat => k ≤ 32) (fun k => ⟨[(4, .ptr 0 0 0 1), (2, .lstI .u8 ad), (3, .lstI .u8 c), (8, .nils), (9, .ptr 96 0 0 1), (10, .ptr 128 0 0 1), (11, .int .i64 (k : Int))], [(128, .obj 22 (.agg [.ints .u8 32 (kR B k)])), (96, .obj 51 (.agg [.ints .u8 64 B]))], 1024, 50⟩) (fun k => 32 - k) 0 (by simp) (by simp [kR, wk, leL, lk, nmT, nmE, nmH, AV.nmIn, AV.nmInL, Ent.nmIn]) ?_
  intro k hk32 K3 hK3
  have hkl := kR_len B k
  refine W.seqK fun K hK => ?_
  by_cases hlt : k < 32
  · have c1 : (k : Int) < 32 := by omega
    refine W.seqK fun K hK => W.regionK tt_ok ?_
    simp only [decide_true, exOps_nil, exOps_cons, exOp_eq, nx_eq, cur_eq, stepQ, ev, ofV, lk, putT, erA, inB, opt, bnd, req, ret, onQ, ap, binG, binF, intF, true_and, and_self, Nat.reduceEqDiff, Nat.reduceLT, Nat.reduceAdd, if_true, if_false, c1]
    refine hK _ ?_
    clear hK K
    refine W.cond (b := true) (by simp only [ev, lk, Nat.reduceEqDiff, if_true, if_false]) (fun _ => W.skip ?_) (fun h => absurd h (by simp))
    rw [thn_normal]
    refine hK _ ?_
    refine W.seqK fun K hK => W.blockK ?_
    refine W.region tt_ok ?_
    simp only [exOps_nil, exOps_cons, exOp_eq, nx_eq, cur_eq, stepQ, ev, lk, putT, erA, inB, opt, bnd, req, ret, onQ, ap, up, er, AV.isTup, AV.isAgg, Kd.elem, Kd.isInt, ixA, asI, ldP, ldE, ldC, ldS, Kd.agg, comps, csize, takeI, takeC, dropC, stP, stE, stC, stS, thn_normal, inb_normal, and_true, true_and, and_self, Nat.reduceEqDiff, Nat.reduceLT, Nat.reduceLeDiff, Nat.reduceAdd, Nat.reduceSub, Int.toNat_natCast, Nat.zero_add, if_true, if_false, Bool.false_eq_true, reduceCtorEq, Option.bind_some, Option.map_some, tt_5, tt_22, tt_51, Int.toNat_natCast]
    repeat (refine ⟨by omega, ?_⟩)
    refine hK _ ?_
    clear hK K
    refine W.region tt_ok ?_
    simp only [exOps_nil, exOps_cons, exOp_eq, nx_eq, cur_eq, stepQ, ev, ofV, lk, putT, erA, inB, opt, bnd, req, ret, onQ, ap, binG, binF, intF, thn_normal, true_and, and_self, Nat.reduceEqDiff, Nat.reduceLT, Nat.reduceAdd, if_true, if_false, wrap_up k (by omega)]
    refine hK3 _ (k + 1) (by omega) (by omega) ?_
    simp [kR, wk, leL, lk, nmT, nmE, nmH, AV.nmIn, AV.nmInL, Ent.nmIn]
  have hk' : k = 32 := by omega
  subst hk'
  have c1 : ¬ (((32 : Nat) : Int) < 32) := by omega
  refine W.seqK fun K hK => W.regionK tt_ok ?_
  simp only [decide_false, exOps_nil, exOps_cons, exOp_eq, nx_eq, cur_eq, stepQ, ev, ofV, lk, putT, erA, inB, opt, bnd, req, ret, onQ, ap, binG, binF, intF, true_and, and_self, Nat.reduceEqDiff, Nat.reduceLT, Nat.reduceAdd, if_true, if_false, c1]
  refine hK _ ?_
  clear hK K
  refine W.cond (b := false) (by simp only [ev, lk, Nat.reduceEqDiff, if_true, if_false]) (fun h => absurd h (by simp)) (fun _ => W.exit ?_)
  simp only [thn_normal, thn_exit, inb_exit, if_true]
  refine hKz _ ?_
  generalize kR B 32 = KK at *
  refine W.seqK fun K hK => W.regionK tt_ok ?_
  simp only [exOps_cons, exOp_eq, exCall_eq, nx_eq, cur_eq, evL, stepQ, ev, lk, putT, erA, inB, opt, ret, onQ, ap, true_and, Nat.reduceEqDiff, Nat.reduceLT, Nat.reduceAdd, if_true, if_false, Option.bind_some, Option.map_some]
  refine CallK.with [] [(1072, .vec 5 (.ints .u8 PA))] _ _ ca call25 (by simp only [AV.nmIn, bnd, req, ret, onQ, AV.isTup, isTupL, true_and, and_self, Bool.false_eq_true, List.append_nil, vw.vwL, vw, AV.free, Bool.or_self]; all_goals (and_intros <;> first | exact AV.subL_refl _ | omega | rfl | (simp []; done) | (simp [AV.subL, AV.sub, entsFree]; done))) (by simp [leL]) (by intro n hn; first | (left; revert hn; simp [Nm, lk]; done) | (right; revert hn; simp only [Nm, lk]; split <;> simp <;> omega)) (by simp [entsIn]) ?_
  simp only [callDel, exOps_cons, exOp_eq, exCall_eq, nx_eq, cur_eq, evL, stepQ, ev, lk, putT, erA, inB, opt, ret, onQ, ap, up, er, true_and, Nat.reduceEqDiff, Nat.reduceLT, Nat.reduceAdd, if_true, if_false, Option.bind_some, Option.map_some, List.nil_append, List.map_cons, List.map_nil, List.reverse_cons, List.reverse_nil]
  refine CallK.with [] [(1104, .vec 5 (.ints .u8 PC))] _ _ cc call25 (by simp only [AV.nmIn, bnd, req, ret, onQ, AV.isTup, isTupL, true_and, and_self, Bool.false_eq_true, List.append_nil, vw.vwL, vw, AV.free, Bool.or_self]; all_goals (and_intros <;> first | exact AV.subL_refl _ | omega | rfl | (simp []; done) | (simp [AV.subL, AV.sub, entsFree]; done))) (by simp [leL]) (by intro n hn; first | (left; revert hn; simp [Nm, lk]; done) | (right; revert hn; simp only [Nm, lk]; split <;> simp <;> omega)) (by simp [entsIn]) ?_
  simp only [callDel, exOps_nil, exOps_cons, exOp_eq, exCall_eq, nx_eq, cur_eq, evL, stepQ, ev, lk, putT, erA, inB, opt, bnd, req, ret, onQ, ap, up, er, bltQ, bltV, appQ, appV, srcQ, Row.len, Row.sz, Row.take, Row.drop, Row.app, Ent.row, and_true, true_and, and_self, or_false, Nat.reduceEqDiff, Nat.reduceLT, Nat.reduceAdd, Nat.le_refl, Nat.zero_add, if_true, if_false, Option.bind_some, Option.map_some, List.nil_append, tt_5, tt_24, List.map_cons, List.map_nil, List.reverse_cons, List.reverse_nil, List.take_length, List.drop_zero]
  refine ⟨⟨by omega, by omega⟩, ?_⟩
  rw [← List.length_append]
  refine hK _ ?_
  clear hK K
  have hPPl : (PA ++ PC).length ≤ 2030 := by rw [List.length_append]; omega
  generalize PA ++ PC = PP at *
  refine W.seqK fun K hK => W.regionK tt_ok ?_
  simp only [exOps_cons, exOp_eq, exCall_eq, nx_eq, cur_eq, evL, stepQ, ev, lk, putT, erA, inB, opt, bnd, req, ret, onQ, ap, bltQ, bltV, lenF, cvQ, true_and, and_self, or_false, Nat.reduceEqDiff, Nat.reduceLT, Nat.reduceAdd, if_true, if_false, List.getElem?_cons_zero, Option.bind_some, Option.map_some, tt_3, tt_23, tt_24, hwa]
  refine CallK.pure _ _ c24 call24 (by simp only [AV.nmIn, bnd, req, ret, onQ, AV.isTup, isTupL, and_true, true_and, and_self, Bool.false_eq_true, not_false_eq_true, imp_false, List.append_nil, vw.vwL, vw, AV.free, Bool.or_self]; all_goals (and_intros <;> first | exact AV.subL_refl _ | omega | rfl | (simp [AV.subL_refl]; done) | (simp; exact AV.subL_refl _) | (simp [AV.subL, AV.sub]; done))) ?_
  simp only [exOps_nil, exOps_cons, exOp_eq, exCall_eq, nx_eq, cur_eq, evL, stepQ, ev, lk, putT, erA, inB, opt, bnd, req, ret, onQ, ap, up, er, bltQ, bltV, appQ, appV, srcQ, rowOf, Row.len, Row.sz, Row.take, Row.app, and_true, true_and, and_self, or_false, Nat.reduceEqDiff, Nat.reduceLT, Nat.reduceAdd, Nat.le_refl, if_true, if_false, Option.bind_some, Option.map_some, tt_5, tt_24, List.take_length]
  refine ⟨⟨by omega, by omega⟩, ?_⟩
  rw [← List.length_append]
  refine hK _ ?_
  clear hK K
  have hQQl : (PP ++ LA).length ≤ 2038 := by rw [List.length_append]; omega
  generalize PP ++ LA = QQ at *
  refine W.seqK fun K hK => W.regionK tt_ok ?_
  simp only [exOps_cons, exOp_eq, exCall_eq, nx_eq, cur_eq, evL, stepQ, ev, lk, putT, erA, inB, opt, bnd, req, ret, onQ, ap, bltQ, bltV, lenF, cvQ, true_and, and_self, or_false, Nat.reduceEqDiff, Nat.reduceLT, Nat.reduceAdd, if_true, if_false, List.getElem?_cons_zero, Option.bind_some, Option.map_some, tt_3, tt_23, tt_24, hwc]
  refine CallK.pure _ _ c24' call24 (by simp only [AV.nmIn, bnd, req, ret, onQ, AV.isTup, isTupL, and_true, true_and, and_self, Bool.false_eq_true, not_false_eq_true, imp_false, List.append_nil, vw.vwL, vw, AV.free, Bool.or_self]; all_goals (and_intros <;> first | exact AV.subL_refl _ | omega | rfl | (simp [AV.subL_refl]; done) | (simp; exact AV.subL_refl _) | (simp [AV.subL, AV.sub]; done))) ?_
  simp only [exOps_nil, exOps_cons, exOp_eq, exCall_eq, nx_eq, cur_eq, evL, stepQ, ev, lk, putT, erA, inB, opt, bnd, req, ret, onQ, ap, up, er, bltQ, bltV, appQ, appV, srcQ, rowOf, Row.len, Row.sz, Row.take, Row.app, and_true, true_and, and_self, or_false, Nat.reduceEqDiff, Nat.reduceLT, Nat.reduceAdd, Nat.le_refl, if_true, if_false, Option.bind_some, Option.map_some, tt_5, tt_24, List.take_length]
  refine ⟨⟨by omega, by omega⟩, ?_⟩
  rw [← List.length_append]
  refine hK _ ?_
  clear hK K
  generalize QQ ++ LC = RR at *
  have hRt : List.take RR.length RR = RR := List.take_length
  rw [← hRt] at c26
  refine W.seqK fun K hK => W.regionK tt_ok ?_
  simp only [exOps_cons, exOp_eq, exCall_eq, nx_eq, cur_eq, evL, stepQ, ev, lk, putT, erA, inB, opt, bnd, req, ret, onQ, ap, ldP, ldE, ldC, ldS, Kd.agg, comps, csize, takeI, takeC, dropC, true_and, and_self, Nat.reduceEqDiff, Nat.reduceLT, Nat.reduceLeDiff, Nat.reduceAdd, Nat.reduceSub, Nat.sub_self, Nat.le_refl, Nat.add_zero, if_true, if_false, reduceCtorEq, Option.bind_some, Option.map_some, tt_22]
  refine CallK.pure _ _ c26 call26 (by simp only [Bool.or_true, Bool.or_false, AV.nmIn, lk, opt, bnd, req, ret, onQ, AV.isTup, isTupL, Ent.row, true_and, and_self, Nat.reduceEqDiff, Nat.le_refl, Nat.zero_add, if_true, if_false, forall_const, List.append_nil, vw.vwL, vw, viewR, AV.free, AV.freeL, Ent.row, Bool.or_self]; all_goals (and_intros <;> first | exact AV.subL_refl _ | omega | rfl | (simp [AV.subL_refl]; done) | (simp; exact AV.subL_refl _) | (simp [AV.subL, AV.sub]; done))) ?_
  simp only [exOps_nil, exOps_cons, exOp_eq, nx_eq, cur_eq, stepQ, ev, lk, putT, erA, inB, opt, bnd, req, ret, onQ, ap, up, er, AV.isAgg, Kd.agg, comps, szL, csize, takeI, takeC, dropC, stP, stE, stC, stS, true_and, and_self, Nat.reduceEqDiff, Nat.reduceLT, Nat.reduceLeDiff, Nat.reduceAdd, Nat.reduceSub, Nat.sub_self, Nat.le_refl, Nat.add_zero, Nat.zero_add, if_true, if_false, reduceCtorEq, Option.bind_some, Option.map_some, List.append_nil, List.nil_append, tt_45]
  refine hK _ ?_
  clear hK K
  refine W.seqK fun K hK => W.regionK tt_ok ?_
  simp only [exOps_nil, exOps_cons, exOp_eq, exCall_eq, nx_eq, cur_eq, evL, evP, stepQ, ev, lk, putT, erA, inB, opt, bnd, req, ret, onQ, ap, up, er, intsOf, comps, szL, csize, bltQ, bltV, slF, bd, bds, appQ, appV, srcQ, Row.len, Row.sz, Row.take, Row.drop, Row.app, Ent.row, bldA, bslQ, zeroCs, cellsRow, and_true, true_and, and_self, or_false, Nat.reduceEqDiff, Nat.reduceLT, Nat.reduceLeDiff, Nat.reduceAdd, Nat.reduceSub, Nat.reduceMul, Nat.le_refl, Nat.zero_le, Nat.add_zero, Nat.zero_add, if_true, if_false, Option.bind_some, Option.map_some, List.nil_append, tt_5, tt_24, tt_45, List.replicate_zero, List.length_nil, List.take_nil, List.nil_append, Nat.zero_add, List.drop_zero]
  have hT16 : List.take 16 T = T := List.take_of_length_le (by omega)
  rw [hT16, hTl]
  refine ⟨⟨by omega, by omega, by omega⟩, ?_⟩
  refine hK _ ?_
  clear hK K
  refine W.ret ?_
  simp only [fin_ret, finB, resQ, resV, leL, AV.nmIn, entsIn, lk, opt, bnd, req, ret, onQ, AV.isTup, and_true, true_and, and_self, Nat.reduceEqDiff, if_true, if_false]
  simp [Nm, lk, Ent.nmIn, Row.nmIn]
theorem tagR_at (X : Nat) (key : List Int) (n : Int) (ad c : List Int) (hk : key.length = 32) (hn : 0 ≤ n ∧ n < 18446744073709551616) (hK : Bt key) (hA : Bt ad) (hC : Bt c) (ha : ad.length ≤ 1000) (hc : c.length ≤ 1000) :
    FnR Tryd.prog G 18 [.agg [.ints .u8 32 key], .int .u64 n, .lstI .u8 ad, .lstI .u8 c] [] (.sl X 1 0 16) [(X, .vec 5 (.ints .u8 (tagN key (nonN n) ad c)))] := by
  have h := (tagR_own key n ad c hk hn hK hA hC ha hc).rename 1488 X
  simpa [AV.map, swp, enMap, Ent.map, Row.map] using h
theorem tagR_ok (key : List Int) (n : Int) (ad c : List Int) (hk : key.length = 32) (hn : 0 ≤ n ∧ n < 18446744073709551616) (hK : Bt key) (hA : Bt ad) (hC : Bt c) (ha : ad.length ≤ 1000) (hc : c.length ≤ 1000) :
    FnR Tryd.prog G 18 [.agg [.ints .u8 32 key], .int .u64 n, .lstI .u8 ad, .lstI .u8 c] [] (.lstI .u8 (tagN key (nonN n) ad c)) [] := by
  have hl := tagN_len key (nonN n) ad c
  have h := tagR_own key n ad c hk hn hK hA hC ha hc
  generalize tagN key (nonN n) ad c = T at *
  refine h.val (F := true) rfl ⟨16 ≤ T.length, ?_, by omega⟩
  simp [vw, viewR, Ent.row, lk, opt, bnd, req, ret]
  exact List.take_of_length_le (by omega)
end Go.Proofs.YtakgcmponelbeaaDoor
