/- Open of Seal; alive. -/
import Derived.Test.YtakgcmponelbeaaDoorAeG
import Derived.Test.YtakgcmponelbeaaDoorAmP
import Derived.Test.YtakgcmponelbeaaDoorPlB
-- TT 3 4 5 9 22 23 24 28
set_option linter.unusedVariables false
set_option linter.unusedSimpArgs false
namespace Go.Proofs.YtakgcmponelbeaaDoor
open Sx
open Sm (xorO xorO_len)
open Tg (xorA)
set_option maxRecDepth 100000
set_option maxHeartbeats 2000000
theorem call9 : Callable Tryd.prog 9 := ⟨_, Tryd.func9, by kernel_rfl, by kernel_rfl⟩
theorem call11 : Callable Tryd.prog 11 := ⟨_, Tryd.func11, by kernel_rfl, by kernel_rfl⟩
theorem xorA_zero {xs ys : List Int} (hx : Bt xs) (hy : Bt ys) : ∀ n, (xorA xs ys n = 0 ↔ ∀ i, i < n → xs.getD i 0 = ys.getD i 0) ∧ 0 ≤ xorA xs ys n ∧ xorA xs ys n < 256
  | 0 => by simp [xorA]
  | n + 1 => by
    obtain ⟨h1, h2⟩ := xorA_zero hx hy n
    have h3 := xor_byte (hx n) (hy n)
    have h4 := or_byte h2 h3.2
    rw [xorA]
    refine ⟨?_, h4.2⟩
    rw [h4.1, h1, h3.1]
    constructor
    · rintro ⟨a, b⟩ i hi
      by_cases hin : i < n
      · exact a i hin
      · have : i = n := by omega
        rw [this]; exact b
    · intro h
      exact ⟨fun i hi => h i (by omega), h n (by omega)⟩
theorem eq_spec {xs ys : List Int} (hx : Bt xs) (hy : Bt ys) : (decide (xs.length = ys.length) && (xorA xs ys xs.length == 0)) = decide (xs = ys) := by
  rw [Bool.eq_iff_iff]
  simp only [Bool.and_eq_true, decide_eq_true_eq, beq_iff_eq]
  rw [(xorA_zero hx hy _).1]
  constructor
  · rintro ⟨h1, h2⟩
    apply List.ext_getElem h1
    intro i h3 h4
    have := h2 i h3
    simpa [List.getD_eq_getElem?_getD, h3, h4] using this
  · rintro rfl
    exact ⟨rfl, fun _ _ => rfl⟩
theorem outN_bt (h : List Int) : ∀ k, Bt (Tg.outN h k)
  | 0 => fun i => by simp only [Tg.outN, List.getD_eq_getElem?_getD, List.getElem?_replicate]; split <;> simp
  | k + 1 => fun i => by
    have h1 := outN_bt h k
    rw [Tg.outN]
    by_cases hi : i = k
    · subst hi
      by_cases hl : i < (Tg.outN h i).length
      · rw [Sm.getD_set_self hl, IntKind.wrap_u8]; omega
      · rw [List.set_eq_of_length_le (by omega)]; exact h1 i
    · rw [Sm.getD_set_ne (fun e => hi e.symm)]; exact h1 i
theorem tagN_bt (key nonce ad c : List Int) : Bt (tagN key nonce ad c) := outN_bt _ 16
theorem box_parts (F T : List Int) (hT : T.length = 16) : (F ++ T).take ((F ++ T).length - 16) = F ∧ (F ++ T).drop ((F ++ T).length - 16) = T := by
  have h : (F ++ T).length - 16 = F.length := by rw [List.length_append]; omega
  rw [h]
  exact ⟨List.take_left, List.drop_left⟩
theorem open_seal (key : List Int) (n : Int) (ad b : List Int) (hk : key.length = 32) (ha : ad.length ≤ 60000) (hb : b.length ≤ 60000) (hB : Bt b) :
    FnR Tryd.prog G 11 [.agg [.ints .u8 32 key], .int .u64 n, .lstI .u8 ad, .lstI .u8 (sealN key n ad b)] [] (.tup [.lstI .u8 b, .int .i64 0]) [] := by
  have hl := sealN_len key n ad b
  have h1 := Sm.back_plain1 (key := key) (nonce := nonN n) (count := 1) hB
  have hp := box_parts (xorO key (nonN n) 1 b b.length) (tagN key (nonN n) ad (xorO key (nonN n) 1 b b.length)) (tagN_len _ _ _ _)
  have h2 := tagN_bt key (nonN n) ad (xorO key (nonN n) 1 b b.length)
  have h := open_ok key n ad (sealN key n ad b) hk ha (by omega) (by omega) (by
    unfold sealN
    rw [hp.1, hp.2, eq_spec h2 h2]
    simp)
  unfold sealN at h ⊢
  rw [hp.1, h1] at h
  exact h
theorem open_seal_at (X : Nat) (key : List Int) (n : Int) (ad b : List Int) (hk : key.length = 32) (ha : ad.length ≤ 60000) (hb : b.length ≤ 60000) (hB : Bt b) :
    FnR Tryd.prog G 11 [.agg [.ints .u8 32 key], .int .u64 n, .lstI .u8 ad, .lstI .u8 (sealN key n ad b)] [] (.tup [.sl X 1 0 b.length, .int .i64 0]) [(X, .vec 5 (.ints .u8 b))] := by
  have hl := sealN_len key n ad b
  have h1 := Sm.back_plain1 (key := key) (nonce := nonN n) (count := 1) hB
  have hp := box_parts (xorO key (nonN n) 1 b b.length) (tagN key (nonN n) ad (xorO key (nonN n) 1 b b.length)) (tagN_len _ _ _ _)
  have h2 := tagN_bt key (nonN n) ad (xorO key (nonN n) 1 b b.length)
  have h := open_at X key n ad (sealN key n ad b) hk ha (by omega) (by omega) (by
    unfold sealN
    rw [hp.1, hp.2, eq_spec h2 h2]
    simp)
  have hl' : (sealN key n ad b).length - 16 = b.length := by omega
  have h4 : (sealN key n ad b).take ((sealN key n ad b).length - 16) = xorO key (nonN n) 1 b b.length := hp.1
  rw [hl'] at h4
  rw [hl', h4, h1] at h
  exact h
/-- A box with another tag. -/
theorem open_turned (key : List Int) (n : Int) (ad F T : List Int) (hk : key.length = 32) (ha : ad.length ≤ 60000) (hF : F.length ≤ 60000) (hT : T.length = 16) (hTB : Bt T) (hne : T ≠ tagN key (nonN n) ad F) :
    FnR Tryd.prog G 11 [.agg [.ints .u8 32 key], .int .u64 n, .lstI .u8 ad, .lstI .u8 (F ++ T)] [] (.tup [.nils, .int .i64 5]) [] := by
  have hl : (F ++ T).length = F.length + 16 := by rw [List.length_append, hT]
  have hp := box_parts F T hT
  refine open_bad key n ad (F ++ T) hk ha (by omega) (by omega) ?_
  rw [hp.1, hp.2, eq_spec (tagN_bt _ _ _ _) hTB]
  simp only [decide_eq_false_iff_not]
  exact fun h => hne h.symm
theorem alive_fn : FnR Tryd.prog G 8 [] [] (.bool true) [] := by
  refine FnR.of_walk (m := 51) (n0 := 0) tt_ok Tryd.func8 rfl rfl (by simp) (by simp [nmH]) ?_
  rw [show Tryd.f8.results.toList = [.tmp 0] from rfl]
  refine W.seqK fun K hK => W.regionK tt_ok ?_
  simp only [exOps_nil, exOps_cons, exOp_eq, nx_eq, cur_eq, stepQ, ev, ofV, parT, putT, erA, inB, opt, ret, onQ, ap, true_and, Nat.reduceLT, Nat.zero_add]
  refine hK _ ?_
  clear hK K
  refine W.seqK fun K hK => W.regionK tt_ok ?_
  simp only [exOps_nil, exOps_cons, exOp_eq, nx_eq, cur_eq, evP, stepQ, ev, ofV, lk, putT, erA, inB, opt, bnd, req, ret, onQ, ap, up, er, AV.isTup, AV.isAgg, Kd.agg, comps, szL, csize, takeI, takeC, dropC, stP, stE, stC, stS, bldF, bldA, true_and, and_self, Nat.reduceEqDiff, Nat.reduceLT, Nat.reduceLeDiff, Nat.reduceAdd, Nat.reduceSub, Nat.reduceMul, Nat.sub_self, Nat.le_refl, Nat.add_zero, Nat.zero_add, if_true, if_false, Bool.false_eq_true, reduceCtorEq, Option.bind_some, Option.map_some, List.append_nil, List.nil_append, tt_5, tt_22]
  refine hK _ ?_
  clear hK K
  have hk : ((((List.replicate 32 (0 : Int)).set 0 1).set 1 2).set 2 3).length = 32 := by simp
  generalize (((List.replicate 32 (0 : Int)).set 0 1).set 1 2).set 2 3 = KEY at *
  have c9 := seal_at 144 KEY 5 [97, 100] [97, 98, 99] hk (by simp) (by simp)
  have c11 := open_seal_at 304 KEY 5 [97, 100] [97, 98, 99] hk (by simp) (by simp) (Bt.of_mem (by simp))
  have c12 := open_form KEY 5 [] [] (by simp) (by simp)
  have hX := sealN_len KEY 5 [97, 100] [97, 98, 99]
  generalize sealN KEY 5 [97, 100] [97, 98, 99] = X at *
  have hX19 : X.length = 19 := hX
  have hXt : X.take 19 = X := List.take_of_length_le (by omega)
  rw [← hXt] at c11
  have hs0 : strOf [97, 98, 99] = ByteArray.mk #[97, 98, 99] := rfl
  have hs : ((strOf [97, 98, 99]).toList == (ByteArray.mk #[97, 98, 99]).toList) = true := by rw [hs0]; exact beq_self_eq_true _
  have h19 : (((19 : Nat) : Int) == 19) = true := rfl
  refine W.seqK fun K hK => W.regionK tt_ok ?_
  simp only [exOps_cons, exOp_eq, exCall_eq, nx_eq, cur_eq, evL, evP, stepQ, ev, ofV, lk, putT, erA, inB, opt, bnd, req, ret, onQ, ap, up, er, AV.isTup, AV.isAgg, intsOf, ldP, ldE, ldC, ldS, Kd.agg, comps, szL, csize, takeI, takeC, dropC, stC, stS, cvQ, Row.len, Row.sz, bldA, bslQ, zeroCs, cellsRow, and_true, true_and, and_self, and_false, Nat.reduceEqDiff, Nat.reduceLT, Nat.reduceLeDiff, Nat.reduceAdd, Nat.reduceSub, Nat.reduceMul, Nat.sub_self, Nat.le_refl, Nat.add_zero, Nat.zero_add, if_true, if_false, Bool.false_eq_true, reduceCtorEq, Option.bind_some, Option.map_some, List.append_nil, List.nil_append, List.cons_append, tt_5, tt_22, tt_24, List.replicate_succ, List.replicate_zero, List.set_cons_zero, List.set_cons_succ, List.length_cons, List.length_nil]
  refine CallK.with [] [(144, .vec 5 (.ints .u8 X))] _ _ c9 call9 (by simp only [Bool.or_true, Bool.or_false, AV.nmIn, lk, opt, bnd, req, ret, onQ, AV.isTup, isTupL, Ent.row, and_true, true_and, and_self, Nat.reduceEqDiff, Nat.zero_add, if_true, if_false, forall_const, List.append_nil, vw.vwL, vw, viewR, AV.free, AV.freeL, Ent.row, Bool.or_self]; all_goals (and_intros <;> first | exact AV.subL_refl _ | omega | rfl | (simp []; done) | (simp [AV.subL, AV.sub, entsFree]; done))) (by simp [leL]) (by intro n hn; first | (left; revert hn; simp [Nm, lk]; done) | (right; revert hn; simp only [Nm, lk]; split <;> simp <;> omega)) (by simp [entsIn]) ?_
  simp only [callDel, exOps_nil, exOps_cons, exOp_eq, nx_eq, cur_eq, stepQ, ev, lk, putT, erA, inB, opt, ret, onQ, ap, up, er, true_and, Nat.reduceEqDiff, Nat.reduceLT, Nat.reduceAdd, Nat.zero_add, if_true, if_false, reduceCtorEq, List.getElem?_cons_zero, List.getElem?_cons_succ, List.nil_append, List.map_cons, List.map_nil, List.reverse_cons, List.reverse_nil, List.length_cons, List.length_nil]
  refine hK _ ?_
  clear hK K
  refine W.seqK fun K hK => W.regionK tt_ok ?_
  simp only [exOps_cons, exOp_eq, exCall_eq, nx_eq, cur_eq, evL, evP, stepQ, ev, ofV, lk, putT, erA, inB, opt, bnd, req, ret, onQ, ap, up, er, AV.isTup, AV.isAgg, intsOf, ldP, ldE, ldC, ldS, Kd.agg, comps, szL, csize, takeI, takeC, dropC, stC, stS, cvQ, Row.len, Row.sz, bldA, bslQ, zeroCs, cellsRow, and_true, true_and, and_self, and_false, Nat.reduceEqDiff, Nat.reduceLT, Nat.reduceLeDiff, Nat.reduceAdd, Nat.reduceSub, Nat.reduceMul, Nat.sub_self, Nat.le_refl, Nat.add_zero, Nat.zero_add, if_true, if_false, Bool.false_eq_true, reduceCtorEq, Option.bind_some, Option.map_some, List.append_nil, List.nil_append, List.cons_append, tt_5, tt_22, tt_24, List.replicate_succ, List.replicate_zero, List.set_cons_zero, List.set_cons_succ, List.length_cons, List.length_nil]
  refine CallK.with [] [(304, .vec 5 (.ints .u8 [97, 98, 99]))] _ _ c11 call11 (by simp only [Bool.or_true, Bool.or_false, AV.nmIn, lk, opt, bnd, req, ret, onQ, AV.isTup, isTupL, Ent.row, and_true, true_and, and_self, Nat.reduceEqDiff, Nat.zero_add, if_true, if_false, forall_const, List.append_nil, vw.vwL, vw, viewR, AV.free, AV.freeL, Ent.row, Bool.or_self]; all_goals (and_intros <;> first | exact AV.subL_refl _ | omega | rfl | (simp []; done) | (simp [AV.subL, AV.sub, entsFree]; done))) (by simp [leL]) (by intro n hn; first | (left; revert hn; simp [Nm, lk]; done) | (right; revert hn; simp only [Nm, lk]; split <;> simp <;> omega)) (by simp [entsIn]) ?_
  simp only [callDel, exOps_nil, exOps_cons, exOp_eq, nx_eq, cur_eq, stepQ, ev, lk, putT, erA, inB, opt, ret, onQ, ap, up, er, true_and, Nat.reduceEqDiff, Nat.reduceLT, Nat.reduceAdd, Nat.zero_add, if_true, if_false, reduceCtorEq, List.getElem?_cons_zero, List.getElem?_cons_succ, List.nil_append, List.map_cons, List.map_nil, List.reverse_cons, List.reverse_nil, List.length_cons, List.length_nil]
  refine hK _ ?_
  clear hK K
  refine W.seqK fun K hK => W.regionK tt_ok ?_
  simp only [exOps_cons, exOp_eq, exCall_eq, nx_eq, cur_eq, evL, stepQ, ev, ofV, lk, putT, erA, inB, opt, bnd, req, ret, onQ, ap, ldP, ldE, ldC, ldS, Kd.agg, comps, csize, takeI, takeC, dropC, true_and, and_self, Nat.reduceEqDiff, Nat.reduceLT, Nat.reduceLeDiff, Nat.reduceAdd, Nat.reduceSub, Nat.sub_self, Nat.le_refl, Nat.add_zero, if_true, if_false, reduceCtorEq, Option.bind_some, Option.map_some, tt_22]
  refine CallK.pure _ _ c12 call11 (by simp only [AV.nmIn, bnd, req, ret, onQ, AV.isTup, isTupL, true_and, and_self, Bool.false_eq_true, List.append_nil, vw.vwL, vw, AV.free, AV.freeL, Bool.or_self]; all_goals (and_intros <;> first | exact AV.subL_refl _ | omega | rfl | (simp []; done) | (simp; exact AV.subL_refl _) | (simp [AV.subL, AV.sub]; done))) ?_
  simp only [exOps_nil, exOps_cons, exOp_eq, nx_eq, cur_eq, stepQ, ev, lk, putT, erA, inB, opt, ret, onQ, ap, true_and, Nat.reduceEqDiff, Nat.reduceLT, Nat.reduceAdd, if_true, if_false, reduceCtorEq, List.getElem?_cons_zero, List.getElem?_cons_succ]
  refine hK _ ?_
  clear hK K
  refine W.seqK fun K hK => W.regionK tt_ok ?_
  simp only [Int.reduceBEq, ↓gTT, ↓nTT, exOps_nil, exOps_cons, exOp_eq, exCall_eq, nx_eq, cur_eq, evL, stepQ, ev, ofV, lk, putT, erA, inB, opt, bnd, req, ret, onQ, ap, binG, binF, intF, strF, pickF, bltQ, bltV, lenF, cvQ, s2bQ, srcQ, Row.len, Row.sz, Row.take, Row.drop, Ent.row, and_true, true_and, and_self, or_false, Nat.reduceEqDiff, Nat.reduceLT, Nat.reduceAdd, Nat.le_refl, Nat.zero_add, if_true, if_false, reduceCtorEq, ne_eq, not_false_eq_true, forall_const, List.getElem?_cons_zero, List.getElem?_cons_succ, Option.bind_some, Option.map_some, tt_5, tt_9, tt_24, hs, h19, List.length_cons, List.length_nil, List.drop_zero, List.take_succ_cons, List.take_zero]
  refine hK _ ?_
  clear hK K
  refine W.ret ?_
  simp only [fin_ret, finB, resQ, resV, leL, AV.nmIn, entsIn, lk, opt, bnd, req, ret, onQ, AV.isTup, and_self, if_true, if_false, reduceCtorEq]
end Go.Proofs.YtakgcmponelbeaaDoor
