/- The document's Expand. -/
import Derived.Test.YtageadccfdbmjaaDoorRtD
import Derived.Test.YtageadccfdbmjaaDoorShQ
import Derived.Test.YtageadccfdbmjaaDoorSxW
-- TT 2 3 4 5 22 24 26 28 59 71
-- SIMP Sx.stP
-- KIND 25 9 5 15
-- NOENT 25 9 0
-- NOENT 25 9 7
set_option linter.unusedVariables false
set_option linter.unusedSimpArgs false
namespace Go.Proofs.YtageadccfdbmjaaDoor
open Sx
set_option maxRecDepth 100000
set_option maxHeartbeats 4000000
theorem hmac_bytes (key b : List Int) (hb : b.length ≤ 80000) (hf : ∀ x ∈ b, 0 ≤ x ∧ x < 256) : ∀ x ∈ hmac key b, 0 ≤ x ∧ x < 256 := by
  unfold hmac
  have k1 := kB_bytes 92 key
  have k2 := kB_bytes 54 key
  have l1 := kB_len 92 key
  have l2 := kB_len 54 key
  generalize kB 92 key = A at *
  generalize kB 54 key = B at *
  have l3 := dig_len (B ++ b)
  have k3 := dig_bytes (B ++ b) (by rw [List.length_append]; omega) (fun x hx => by rcases List.mem_append.1 hx with h | h; exact k2 x h; exact hf x h)
  generalize dig (B ++ b) = C at *
  exact dig_bytes (A ++ C) (by rw [List.length_append]; omega) (fun x hx => by rcases List.mem_append.1 hx with h | h; exact k1 x h; exact k3 x h)
theorem eL_bytes (key info : List Int) (hi : info.length ≤ 10000) (hB : ∀ x ∈ info, 0 ≤ x ∧ x < 256) : ∀ j, ∀ x ∈ eL key info j, 0 ≤ x ∧ x < 256
  | 0 => fun x hx => by cases hx
  | j + 1 => by
    have hl := eL_le key info j
    have ih := eL_bytes key info hi hB j
    rw [eL]
    generalize eL key info j = L at *
    refine hmac_bytes key _ (by rw [List.length_append, List.length_append]; simp; omega) (fun x hx => ?_)
    rcases List.mem_append.1 hx with h | h
    · exact ih x h
    · rcases List.mem_append.1 h with h | h
      · exact hB x h
      · simp only [List.mem_singleton] at h
        subst h
        rw [IntKind.wrap_u8]
        omega
theorem rexpand_bad (key info : List Int) (n : Int) (hk : key.length = 32) (hn : n < 0 ∨ 8160 < n) :
    FnR Tryd.prog G 25 [.agg [.ints .u8 32 key], .lstI .u8 info, .int .i64 n] [] (.tup [.nils, .int .i64 2]) [] := by
  refine FnR.of_walkT (m := 47) tt_ok Tryd.func25 rfl rfl (by simp) ?_
  rw [show Tryd.f25.results.toList = [.tmp 6, .tmp 7] from rfl]
  refine W.seqK fun K hK => W.regionK tt_ok ?_
  simp only [exOps_nil, exOps_cons, exOp_eq, nx_eq, cur_eq, stepQ, ev, ofV, lk, parT, putT, erA, inB, opt, req, ret, onQ, ap, up, er, AV.isTup, true_and, and_self, Nat.reduceEqDiff, Nat.reduceLT, Nat.reduceAdd, Nat.zero_add, if_true, if_false, reduceCtorEq]
  refine hK _ ?_
  clear hK K
  refine W.seqK fun Ky hKy => ?_
  by_cases h1 : n < 0
  · refine W.seqK fun K hK => W.regionK tt_ok ?_
    simp only [↓gTF, ↓nTF, decide_true, exOps_nil, exOps_cons, exOp_eq, nx_eq, cur_eq, stepQ, ev, ofV, lk, putT, erA, inB, opt, bnd, req, ret, onQ, ap, binG, binF, intF, pickF, true_and, and_self, Nat.reduceEqDiff, Nat.reduceLT, Nat.reduceAdd, if_true, if_false, reduceCtorEq, List.getElem?_cons_zero, List.getElem?_cons_succ, Option.bind_some, h1]
    refine hK _ ?_
    clear hK K
    refine W.cond (b := true) (by simp only [ev, lk, Nat.reduceEqDiff, if_true, if_false, reduceCtorEq]) (fun _ => ?_) (fun h => absurd h (by simp))
    refine W.seqK fun K hK => W.regionK tt_ok ?_
    simp only [exOps_nil, exOps_cons, exOp_eq, nx_eq, cur_eq, stepQ, ev, ofV, putT, erA, inB, opt, ret, onQ, ap, true_and, Nat.reduceEqDiff, Nat.reduceLT, Nat.reduceAdd, if_true, if_false, reduceCtorEq]
    refine hK _ ?_
    clear hK K
    refine W.ret ?_
    simp only [finT_ret, finTB, resQ, lk, opt, bnd, req, ret, onQ, AV.isTup, thn_ret, true_and, and_self, Nat.reduceEqDiff, if_true, if_false, reduceCtorEq, ne_eq]
    simp [vw, vw.vwL, bnd, req, ret, AV.nmIn]
  · have h2 : 8160 < n := by omega
    refine W.seqK fun K hK => W.regionK tt_ok ?_
    simp only [↓gFF, ↓nFF, decide_true, decide_false, exOps_nil, exOps_cons, exOp_eq, nx_eq, cur_eq, stepQ, ev, ofV, lk, putT, erA, inB, opt, bnd, req, ret, onQ, ap, binG, binF, intF, pickF, and_true, true_and, and_self, Nat.reduceEqDiff, Nat.reduceLT, Nat.reduceAdd, if_true, if_false, reduceCtorEq, List.getElem?_cons_zero, List.getElem?_cons_succ, Option.bind_some, h1, h2]
    refine hK _ ?_
    clear hK K
    refine W.cond (b := true) (by simp only [ev, lk, Nat.reduceEqDiff, if_true, if_false, reduceCtorEq]) (fun _ => ?_) (fun h => absurd h (by simp))
    refine W.seqK fun K hK => W.regionK tt_ok ?_
    simp only [exOps_nil, exOps_cons, exOp_eq, nx_eq, cur_eq, stepQ, ev, ofV, putT, erA, inB, opt, ret, onQ, ap, true_and, Nat.reduceEqDiff, Nat.reduceLT, Nat.reduceAdd, if_true, if_false, reduceCtorEq]
    refine hK _ ?_
    clear hK K
    refine W.ret ?_
    simp only [finT_ret, finTB, resQ, lk, opt, bnd, req, ret, onQ, AV.isTup, thn_ret, true_and, and_self, Nat.reduceEqDiff, if_true, if_false, reduceCtorEq, ne_eq]
    simp [vw, vw.vwL, bnd, req, ret, AV.nmIn]
def yS (key info : List Int) (n : Nat) (j : Nat) : St :=
  ⟨[(1, .lstI .u8 info), (2, .int .i64 (n : Int)), (3, .pel (.agg [.ints .u8 32 key])), (7, .int .i64 0), (8, oV j), (9, .lstI .u8 (eL key info j)), (10, .int .i64 ((j : Int) + 1))], oE key info j, 2048, 47⟩
theorem rexpand_own (key info : List Int) (n : Nat) (hk : key.length = 32) (hi : info.length ≤ 10000) (hn : n ≤ 8160) (hK : ∀ x ∈ key, 0 ≤ x ∧ x < 256) (hB : ∀ x ∈ info, 0 ≤ x ∧ x < 256) :
    FnR Tryd.prog G 25 [.agg [.ints .u8 32 key], .lstI .u8 info, .int .i64 (n : Int)] [] (.tup [if n = 0 then .nils else .lstI .u8 (expn key info n), .int .i64 0]) [] := by
  have h1 : ¬ (n : Int) < 0 := by omega
  have h2 : ¬ 8160 < (n : Int) := by omega
  refine FnR.of_walkT (m := 47) tt_ok Tryd.func25 rfl rfl (by simp) ?_
  rw [show Tryd.f25.results.toList = [.tmp 6, .tmp 7] from rfl]
  refine W.seqK fun K hK => W.regionK tt_ok ?_
  simp only [exOps_nil, exOps_cons, exOp_eq, nx_eq, cur_eq, stepQ, ev, ofV, lk, parT, putT, erA, inB, opt, req, ret, onQ, ap, up, er, AV.isTup, true_and, and_self, Nat.reduceEqDiff, Nat.reduceLT, Nat.reduceAdd, Nat.zero_add, if_true, if_false, reduceCtorEq]
  refine hK _ ?_
  clear hK K
  refine W.seqK fun Ky hKy => ?_
  refine W.seqK fun K hK => W.regionK tt_ok ?_
  simp only [↓gFF, ↓nFF, decide_false, exOps_nil, exOps_cons, exOp_eq, nx_eq, cur_eq, stepQ, ev, ofV, lk, putT, erA, inB, opt, bnd, req, ret, onQ, ap, binG, binF, intF, pickF, and_true, true_and, and_self, Nat.reduceEqDiff, Nat.reduceLT, Nat.reduceAdd, if_true, if_false, reduceCtorEq, List.getElem?_cons_zero, List.getElem?_cons_succ, Option.bind_some, h1, h2]
  refine hK _ ?_
  clear hK K
  refine W.cond (b := false) (by simp only [ev, lk, Nat.reduceEqDiff, if_true, if_false, reduceCtorEq]) (fun h => absurd h (by simp)) (fun _ => W.skip ?_)
  simp only [thn_normal]
  refine hKy _ ?_
  refine W.seqK fun K hK => W.regionK tt_ok ?_
  simp only [exOps_nil, exOps_cons, exOp_eq, nx_eq, cur_eq, stepQ, ev, ofV, putT, erA, inB, opt, ret, onQ, ap, true_and, Nat.reduceEqDiff, Nat.reduceLT, Nat.reduceAdd, if_false, reduceCtorEq]
  refine hK _ ?_
  clear hK K
  refine W.seqK fun Kx hKx => ?_
  refine W.seqK fun K hK => W.regionK tt_ok ?_
  simp only [exOps_nil, exOps_cons, exOp_eq, nx_eq, cur_eq, stepQ, ev, ofV, putT, erA, inB, opt, ret, onQ, ap, true_and, Nat.reduceEqDiff, Nat.reduceLT, Nat.reduceAdd, if_false, reduceCtorEq]
  refine hK _ ?_
  clear hK K
  refine W.blockK ?_
  refine W.pel 3 0 [(1, .lstI .u8 info), (2, .int .i64 (n : Int)), (7, .int .i64 0), (8, .nils), (9, .nils), (10, .int .i64 1)] [] rfl rfl (by simp [AV.nmIn, AV.nmInL]) ⟨by simp [leL, lk], by simp [leL], rfl, ?_, trivial, trivial⟩ ?_
  · intro i x hx
    simp only [lk] at hx
    repeat' split at hx
    all_goals first | (cases hx; done) | (cases hx; trivial)
  refine W.loopF (fun j : Nat => j ≤ (n + 31) / 32) (yS key info n) (fun j => (n + 31) / 32 - j) 0 (by simp) (by simp [yS, oV, oE, eL, wkF, leF, leFE, AV.sub, vw, onQ, opt, req, ret, lk, AV.isTup, AV.nmIn, nmE]) ?_
  intro j hj K3 hK3
  have hw8 : IntKind.i64.wrap ((j : Int) + 1 + 1) = (j : Int) + 1 + 1 := by rw [IntKind.wrap_i64]; omega
  have hw9 : IntKind.i64.wrap 2 = 2 := by rw [IntKind.wrap_i64]; rfl
  have hkt : List.take 32 key = key := List.take_of_length_le (by omega)
  by_cases hlt : j < (n + 31) / 32
  · have hLl := eL_le key info j
    have hL1 := eL_len key info j
    have hTl := eT_len key info j
    have hT1 : eT key info (j + 1) = eT key info j ++ eL key info (j + 1) := rfl
    have hLe : eL key info (j + 1) = hmac key (eL key info j ++ (info ++ [IntKind.u8.wrap ((j : Int) + 1)])) := rfl
    have hLb : ∀ x ∈ eL key info j, 0 ≤ x ∧ x < 256 := eL_bytes key info hi hB j
    have cm := rmac_fn key (eL key info j ++ (info ++ [IntKind.u8.wrap ((j : Int) + 1)])) (by omega) (by simp; omega) hK (fun x hx => by
      rcases List.mem_append.1 hx with h | h
      · exact hLb x h
      · rcases List.mem_append.1 h with h | h
        · exact hB x h
        · simp only [List.mem_singleton] at h
          subst h
          rw [IntKind.wrap_u8]
          omega)
    rw [← hLe] at cm
    have hkd : List.drop 0 (List.take 32 key) = key := by rw [List.drop_zero]; exact hkt
    have ht1 : List.take 1 (List.drop 0 [IntKind.u8.wrap ((j : Int) + 1)]) = [IntKind.u8.wrap ((j : Int) + 1)] := rfl
    generalize hL : eL key info (j + 1) = L1 at *
    have hLt : List.take 32 L1 = L1 := List.take_of_length_le (by omega)
    have hLd : List.take 32 (List.drop 0 L1) = L1 := by rw [List.drop_zero]; exact List.take_of_length_le (by omega)
    by_cases hj0 : j = 0
    · subst hj0
      have c1 : (0 : Int) < n := by omega
      have hE0 : eT key info 0 = [] := rfl
      simp only [yS, oV, oE, if_true]
      generalize eL key info 0 = L0 at *
      have hl0 : List.take L0.length L0 = L0 := List.take_length
      have hl1 : List.take (L0.length + info.length) (L0 ++ info) = L0 ++ info := List.take_of_length_le (by simp)
      have cm : FnR Tryd.prog G 21 [.lstI .u8 (List.drop 0 (List.take 32 key)), .lstI .u8 (List.take (L0.length + info.length + 1) (List.drop 0 (L0 ++ info ++ [IntKind.u8.wrap (((0 : Nat) : Int) + 1)])))] [] (.agg [.ints .u8 32 L1]) [] := by
        rw [hkd, List.drop_zero, List.take_of_length_le (by simp; omega), List.append_assoc]; exact cm
      have hl2 : L0.length + info.length + 1 ≤ (L0 ++ info ++ [IntKind.u8.wrap (((0 : Nat) : Int) + 1)]).length := by simp; omega
      clear hLe hLb
      refine W.seqK fun K0 hK0 => ?_
      refine W.seqK fun K hK => W.regionK tt_ok ?_
      simp only [decide_true, exOps_nil, exOps_cons, exOp_eq, exCall_eq, nx_eq, cur_eq, evL, stepQ, ev, lk, putT, erA, inB, opt, bnd, req, ret, onQ, ap, binG, binF, intF, bltQ, bltV, lenF, true_and, and_self, or_false, Nat.reduceEqDiff, Nat.reduceLT, Nat.reduceAdd, if_true, if_false, List.getElem?_cons_zero, Option.bind_some, Option.map_some, tt_22, c1]
      refine hK _ ?_
      clear hK K
      refine W.cond (b := true) (by simp only [ev, lk, Nat.reduceEqDiff, if_true, if_false]) (fun _ => W.skip ?_) (fun h => absurd h (by simp))
      rw [thn_normal]
      refine hK0 _ ?_
      clear hK0 K0
      refine W.seqK fun K hK => W.blockK ?_
      refine W.seqK fun K hK => W.regionK tt_ok ?_
      simp only [exOps_nil, exOps_cons, exOp_eq, exCall_eq, nx_eq, cur_eq, evL, evP, stepQ, ev, lk, putT, erA, inB, opt, bnd, req, ret, onQ, ap, up, er, intsOf, bltQ, bltV, appQ, appV, srcQ, rowOf, Row.len, Row.sz, Row.take, Row.app, bldA, bslQ, zeroCs, cellsRow, and_true, true_and, and_self, or_false, Nat.reduceEqDiff, Nat.reduceLT, Nat.reduceAdd, Nat.reduceMul, Nat.le_refl, Nat.zero_le, Nat.zero_add, if_true, if_false, Option.bind_some, Option.map_some, List.nil_append, tt_5, tt_22, List.length_nil, List.replicate_zero, List.take_zero, List.nil_append]
      refine ⟨by omega, ?_⟩
      refine hK _ ?_
      clear hK K
      refine W.seqK fun K hK => W.regionK tt_ok ?_
      simp only [exOps_nil, exOps_cons, exOp_eq, exCall_eq, nx_eq, cur_eq, evL, stepQ, ev, lk, putT, erA, inB, opt, bnd, req, ret, onQ, ap, up, er, bltQ, bltV, appQ, appV, srcQ, rowOf, Row.len, Row.sz, Row.take, Row.app, and_true, true_and, and_self, or_false, Nat.reduceEqDiff, Nat.reduceLT, Nat.reduceAdd, Nat.le_refl, if_true, if_false, Option.bind_some, Option.map_some, tt_5, tt_22, hl0]
      repeat (refine ⟨by omega, ?_⟩)
      refine hK _ ?_
      clear hK K
      refine W.seqK fun K hK => W.drawK [⟨0, false, [], true⟩, ⟨0, false, [], false⟩, ⟨0, false, [], false⟩, ⟨0, true, [2], false⟩, ⟨1, true, [2, 3], false⟩, ⟨15, true, [1, 2, 3, 4], false⟩, ⟨0, true, [0, 1, 2, 3, 4, 5], false⟩, ⟨1, false, [], true⟩, ⟨2, false, [0, 1, 2, 3, 4, 5, 6, 7], false⟩] mix tt_ok (by kernel_rfl) ?_
      simp only [decide_true, decide_false, Bool.or_true, Bool.or_false, List.contains_cons, List.contains_nil, Nat.reduceBEq, exOp_eq, exCall_eq, exD_cons, nxD_eq, cur_eq, flI, flE, ownB, ownL, ownS, evL, evP, stepQ, ev, lk, putT, erA, inB, opt, bnd, req, ret, onQ, ap, up, er, AV.isTup, AV.isAgg, intsOf, Kd.agg, comps, szL, csize, takeI, takeC, dropC, stC, stS, bltQ, bltV, slF, appR, bd, bds, cvQ, appQ, appV, srcQ, Row.len, Row.sz, Row.take, Row.drop, Row.app, Ent.row, bldA, bslQ, zeroCs, cellsRow, and_true, true_and, and_self, and_false, or_false, Nat.reduceEqDiff, Nat.reduceLT, Nat.reduceLeDiff, Nat.reduceAdd, Nat.reduceSub, Nat.reduceMul, Nat.reduceDiv, Nat.sub_self, Nat.le_refl, Nat.add_zero, Nat.zero_add, if_true, if_false, Bool.false_eq_true, reduceCtorEq, Option.bind_some, Option.map_some, List.append_nil, List.nil_append, List.cons_append, tt_3, tt_5, tt_22, tt_24, lit1, beq_self_eq_true, List.set_cons_zero, List.length_cons, List.length_nil, hl1, ht1]
      refine ⟨⟨by simp, by omega, by omega⟩, ?_⟩
      refine CallK.pure _ _ cm call21 (by simp only [Bool.or_true, Bool.or_false, AV.nmIn, lk, opt, bnd, req, ret, onQ, AV.isTup, isTupL, Ent.row, and_true, true_and, and_self, Nat.reduceEqDiff, Nat.zero_add, if_true, if_false, forall_const, List.append_nil, vw.vwL, vw, viewR, AV.free, AV.freeL, Ent.row, Bool.or_self]; all_goals (and_intros <;> first | exact AV.subL_refl _ | omega | (simp [AV.sub]; done) | rfl | (simp [AV.subL_refl]; done) | (simp; exact AV.subL_refl _))) ?_
      simp only [exOp_eq, exD_nil, exD_cons, nxD_eq, cur_eq, flI, ownB, ownL, stepQ, ev, lk, putT, erA, inB, opt, bnd, req, ret, onQ, ap, up, er, AV.isAgg, Kd.agg, comps, szL, csize, takeI, takeC, dropC, stE, stC, stS, true_and, and_self, Nat.reduceEqDiff, Nat.reduceLT, Nat.reduceLeDiff, Nat.reduceAdd, Nat.reduceSub, Nat.sub_self, Nat.le_refl, Nat.add_zero, Nat.zero_add, if_true, if_false, reduceCtorEq, Option.bind_some, Option.map_some, List.append_nil, List.nil_append, tt_24, Sx.stP]
      repeat (refine ⟨by omega, ?_⟩)
      refine hK _ ?_
      clear hK K
      refine W.seqK fun K hK => W.regionK tt_ok ?_
      simp only [exOps_nil, exOps_cons, exOp_eq, exCall_eq, nx_eq, cur_eq, evL, evP, stepQ, ev, lk, putT, erA, inB, opt, bnd, req, ret, onQ, ap, up, er, intsOf, comps, szL, csize, bltQ, bltV, slF, appR, bd, bds, appQ, appV, srcQ, Row.len, Row.sz, Row.take, Row.drop, Row.app, Ent.row, bldA, bslQ, zeroCs, cellsRow, true_and, and_self, or_false, Nat.reduceEqDiff, Nat.reduceLT, Nat.reduceLeDiff, Nat.reduceAdd, Nat.reduceSub, Nat.reduceMul, Nat.le_refl, Nat.zero_le, Nat.add_zero, Nat.zero_add, if_true, if_false, Option.bind_some, Option.map_some, List.nil_append, tt_5, tt_22, tt_24, List.length_nil, hLd, hL1, List.replicate_zero, List.take_zero, List.nil_append]
      repeat (refine ⟨by omega, ?_⟩)
      refine hK _ ?_
      clear hK K
      refine W.region tt_ok ?_
      simp only [exOps_nil, exOps_cons, exOp_eq, exCall_eq, nx_eq, cur_eq, curV_eq, evL, stepQ, ev, lk, putT, erA, inB, opt, bnd, req, ret, onQ, ap, up, er, bltQ, bltV, appQ, appV, srcQ, Row.len, Row.sz, Row.take, Row.drop, Ent.row, Row.lst, thn_normal, inb_normal, true_and, and_self, Nat.reduceEqDiff, Nat.reduceLT, Nat.reduceLeDiff, Nat.reduceAdd, Nat.reduceMul, Nat.le_refl, Nat.zero_add, if_true, if_false, reduceCtorEq, ne_eq, not_false_eq_true, Option.bind_some, Option.map_some, tt_5, tt_22, hLd, hL1]
      refine Or.inl (hK _ ?_)
      refine W.freeze ⟨[(1, .lstI .u8 info), (2, .int .i64 (n : Int)), (3, .pel (.agg [.ints .u8 32 key])), (7, .int .i64 0), (8, .sl 2480 1 0 (32 * 0 + 32)), (9, .lstI .u8 L1), (10, .int .i64 (((0 : Nat) : Int) + 1))], [(2480, .vec 5 (.ints .u8 (eT key info 0 ++ L1)))], 4096, 47⟩ (by simp [wkF, leF, leFE, fzN, fzR, entSub, AV.sub, vw, viewR, onQ, opt, bnd, req, ret, lk, Ent.row, AV.isTup, AV.nmIn, nmE, Ent.nmIn, Row.nmIn, hL1, hLt, hE0]) ?_
      refine W.swap 2480 1040 (by simp [Nm, lk]) ?_
      simp only [St.swap, tmMap, enMap, swp, AV.map, Ent.map, Row.map, Nat.reduceEqDiff, if_true, if_false]
      refine W.region tt_ok ?_
      simp only [exOps_nil, exOps_cons, exOp_eq, nx_eq, cur_eq, stepQ, ev, ofV, lk, putT, erA, inB, opt, bnd, req, ret, onQ, ap, binG, binF, intF, thn_normal, true_and, and_self, Nat.reduceEqDiff, Nat.reduceLT, Nat.reduceAdd, Nat.reduceMul, Nat.zero_add, if_true, if_false]
      refine hK3 _ (0 + 1) (by omega) (by omega) ?_
      simp [yS, oV, oE, wkF, leF, leFE, fzN, fzR, entSub, AV.sub, vw, onQ, opt, bnd, req, ret, lk, AV.isTup, AV.nmIn, nmE, Ent.nmIn, Row.nmIn, hT1, hL, hw9]
    · have c1 : ((32 * j : Nat) : Int) < n := by omega
      simp only [yS, oV, oE, if_neg hj0]
      have hTt : List.take (32 * j) (eT key info j) = eT key info j := List.take_of_length_le (by omega)
      generalize eL key info j = L0 at *
      have hl0 : List.take L0.length L0 = L0 := List.take_length
      have hl1 : List.take (L0.length + info.length) (L0 ++ info) = L0 ++ info := List.take_of_length_le (by simp)
      have cm : FnR Tryd.prog G 21 [.lstI .u8 (List.drop 0 (List.take 32 key)), .lstI .u8 (List.take (L0.length + info.length + 1) (List.drop 0 (L0 ++ info ++ [IntKind.u8.wrap ((j : Int) + 1)])))] [] (.agg [.ints .u8 32 L1]) [] := by
        rw [hkd, List.drop_zero, List.take_of_length_le (by simp; omega), List.append_assoc]; exact cm
      have hl2 : L0.length + info.length + 1 ≤ (L0 ++ info ++ [IntKind.u8.wrap ((j : Int) + 1)]).length := by simp; omega
      clear hLe hLb
      refine W.seqK fun K0 hK0 => ?_
      refine W.seqK fun K hK => W.regionK tt_ok ?_
      simp only [decide_true, exOps_nil, exOps_cons, exOp_eq, exCall_eq, nx_eq, cur_eq, evL, stepQ, ev, lk, putT, erA, inB, opt, bnd, req, ret, onQ, ap, binG, binF, intF, bltQ, bltV, lenF, true_and, and_self, or_false, Nat.reduceEqDiff, Nat.reduceLT, Nat.reduceAdd, if_true, if_false, List.getElem?_cons_zero, Option.bind_some, Option.map_some, tt_22, c1]
      refine hK _ ?_
      clear hK K
      refine W.cond (b := true) (by simp only [ev, lk, Nat.reduceEqDiff, if_true, if_false]) (fun _ => W.skip ?_) (fun h => absurd h (by simp))
      rw [thn_normal]
      refine hK0 _ ?_
      clear hK0 K0
      refine W.seqK fun K hK => W.blockK ?_
      refine W.seqK fun K hK => W.regionK tt_ok ?_
      simp only [exOps_nil, exOps_cons, exOp_eq, exCall_eq, nx_eq, cur_eq, evL, evP, stepQ, ev, lk, putT, erA, inB, opt, bnd, req, ret, onQ, ap, up, er, intsOf, bltQ, bltV, appQ, appV, srcQ, rowOf, Row.len, Row.sz, Row.take, Row.app, bldA, bslQ, zeroCs, cellsRow, and_true, true_and, and_self, or_false, Nat.reduceEqDiff, Nat.reduceLT, Nat.reduceAdd, Nat.reduceMul, Nat.le_refl, Nat.zero_le, Nat.zero_add, if_true, if_false, Option.bind_some, Option.map_some, List.nil_append, tt_5, tt_22, List.length_nil, List.replicate_zero, List.take_zero, List.nil_append]
      refine ⟨by omega, ?_⟩
      refine hK _ ?_
      clear hK K
      refine W.seqK fun K hK => W.regionK tt_ok ?_
      simp only [exOps_nil, exOps_cons, exOp_eq, exCall_eq, nx_eq, cur_eq, evL, stepQ, ev, lk, putT, erA, inB, opt, bnd, req, ret, onQ, ap, up, er, bltQ, bltV, appQ, appV, srcQ, rowOf, Row.len, Row.sz, Row.take, Row.app, and_true, true_and, and_self, or_false, Nat.reduceEqDiff, Nat.reduceLT, Nat.reduceAdd, Nat.le_refl, if_true, if_false, Option.bind_some, Option.map_some, tt_5, tt_22, hl0]
      repeat (refine ⟨by omega, ?_⟩)
      refine hK _ ?_
      clear hK K
      refine W.seqK fun K hK => W.drawK [⟨0, false, [], true⟩, ⟨0, false, [], false⟩, ⟨0, false, [], false⟩, ⟨0, true, [2], false⟩, ⟨1, true, [2, 3], false⟩, ⟨15, true, [1, 2, 3, 4], false⟩, ⟨0, true, [0, 1, 2, 3, 4, 5], false⟩, ⟨1, false, [], true⟩, ⟨2, false, [0, 1, 2, 3, 4, 5, 6, 7], false⟩] mix tt_ok (by kernel_rfl) ?_
      simp only [decide_true, decide_false, Bool.or_true, Bool.or_false, List.contains_cons, List.contains_nil, Nat.reduceBEq, exOp_eq, exCall_eq, exD_cons, nxD_eq, cur_eq, flI, flE, ownB, ownL, ownS, evL, evP, stepQ, ev, lk, putT, erA, inB, opt, bnd, req, ret, onQ, ap, up, er, AV.isTup, AV.isAgg, intsOf, Kd.agg, comps, szL, csize, takeI, takeC, dropC, stC, stS, bltQ, bltV, slF, appR, bd, bds, cvQ, appQ, appV, srcQ, Row.len, Row.sz, Row.take, Row.drop, Row.app, Ent.row, bldA, bslQ, zeroCs, cellsRow, and_true, true_and, and_self, and_false, or_false, Nat.reduceEqDiff, Nat.reduceLT, Nat.reduceLeDiff, Nat.reduceAdd, Nat.reduceSub, Nat.reduceMul, Nat.reduceDiv, Nat.sub_self, Nat.le_refl, Nat.add_zero, Nat.zero_add, if_true, if_false, Bool.false_eq_true, reduceCtorEq, Option.bind_some, Option.map_some, List.append_nil, List.nil_append, List.cons_append, tt_3, tt_5, tt_22, tt_24, lit1, beq_self_eq_true, List.set_cons_zero, List.length_cons, List.length_nil, hl1, ht1]
      refine ⟨⟨by simp, by omega, by omega⟩, ?_⟩
      refine CallK.pure _ _ cm call21 (by simp only [Bool.or_true, Bool.or_false, AV.nmIn, lk, opt, bnd, req, ret, onQ, AV.isTup, isTupL, Ent.row, and_true, true_and, and_self, Nat.reduceEqDiff, Nat.zero_add, if_true, if_false, forall_const, List.append_nil, vw.vwL, vw, viewR, AV.free, AV.freeL, Ent.row, Bool.or_self]; all_goals (and_intros <;> first | exact AV.subL_refl _ | omega | (simp [AV.sub]; done) | rfl | (simp [AV.subL_refl]; done) | (simp; exact AV.subL_refl _))) ?_
      simp only [exOp_eq, exD_nil, exD_cons, nxD_eq, cur_eq, flI, ownB, ownL, stepQ, ev, lk, putT, erA, inB, opt, bnd, req, ret, onQ, ap, up, er, AV.isAgg, Kd.agg, comps, szL, csize, takeI, takeC, dropC, stE, stC, stS, true_and, and_self, Nat.reduceEqDiff, Nat.reduceLT, Nat.reduceLeDiff, Nat.reduceAdd, Nat.reduceSub, Nat.sub_self, Nat.le_refl, Nat.add_zero, Nat.zero_add, if_true, if_false, reduceCtorEq, Option.bind_some, Option.map_some, List.append_nil, List.nil_append, tt_24, Sx.stP]
      repeat (refine ⟨by omega, ?_⟩)
      refine hK _ ?_
      clear hK K
      refine W.seqK fun K hK => W.regionK tt_ok ?_
      simp only [exOps_nil, exOps_cons, exOp_eq, exCall_eq, nx_eq, cur_eq, evL, evP, stepQ, ev, lk, putT, erA, inB, opt, bnd, req, ret, onQ, ap, up, er, intsOf, comps, szL, csize, bltQ, bltV, slF, appR, bd, bds, appQ, appV, srcQ, Row.len, Row.sz, Row.take, Row.drop, Row.app, Ent.row, bldA, bslQ, zeroCs, cellsRow, true_and, and_self, or_false, Nat.reduceEqDiff, Nat.reduceLT, Nat.reduceLeDiff, Nat.reduceAdd, Nat.reduceSub, Nat.reduceMul, Nat.le_refl, Nat.zero_le, Nat.add_zero, Nat.zero_add, if_true, if_false, Option.bind_some, Option.map_some, List.nil_append, tt_5, tt_22, tt_24, List.length_nil, hLd, hL1, List.replicate_zero, List.take_zero, List.nil_append]
      repeat (refine ⟨by omega, ?_⟩)
      refine hK _ ?_
      clear hK K
      refine W.region tt_ok ?_
      simp only [exOps_nil, exOps_cons, exOp_eq, exCall_eq, nx_eq, cur_eq, evL, stepQ, ev, lk, putT, erA, inB, opt, bnd, req, ret, onQ, ap, up, er, bltQ, bltV, appR, appQ, appV, srcQ, Row.len, Row.sz, Row.take, Row.drop, Row.app, Ent.row, thn_normal, inb_normal, and_true, true_and, and_self, or_false, Nat.reduceEqDiff, Nat.reduceLT, Nat.reduceLeDiff, Nat.reduceAdd, Nat.le_refl, Nat.zero_add, if_true, if_false, Option.bind_some, Option.map_some, tt_5, tt_22, hLd, hL1, hTt]
      refine ⟨by omega, ?_⟩
      refine hK _ ?_
      refine W.freeze ⟨[(1, .lstI .u8 info), (2, .int .i64 (n : Int)), (3, .pel (.agg [.ints .u8 32 key])), (7, .int .i64 0), (8, .sl 2480 1 0 (32 * j + 32)), (9, .lstI .u8 L1), (10, .int .i64 (((j : Nat) : Int) + 1))], [(2480, .vec 5 (.ints .u8 (eT key info j ++ L1)))], 4096, 47⟩ (by simp [wkF, leF, leFE, fzN, fzR, entSub, AV.sub, vw, viewR, onQ, opt, bnd, req, ret, lk, Ent.row, AV.isTup, AV.nmIn, nmE, Ent.nmIn, Row.nmIn, hL1, hLt]) ?_
      refine W.swap 2480 1040 (by simp [Nm, lk]) ?_
      simp only [St.swap, tmMap, enMap, swp, AV.map, Ent.map, Row.map, Nat.reduceEqDiff, if_true, if_false]
      refine W.region tt_ok ?_
      simp only [exOps_nil, exOps_cons, exOp_eq, nx_eq, cur_eq, stepQ, ev, ofV, lk, putT, erA, inB, opt, bnd, req, ret, onQ, ap, binG, binF, intF, thn_normal, true_and, and_self, Nat.reduceEqDiff, Nat.reduceLT, Nat.reduceAdd, if_true, if_false]
      refine hK3 _ (j + 1) (by omega) (by omega) ?_
      simp [yS, oV, oE, wkF, leF, leFE, fzN, fzR, entSub, AV.sub, vw, onQ, opt, bnd, req, ret, lk, AV.isTup, AV.nmIn, nmE, Ent.nmIn, Row.nmIn, hT1, hL, hw8, Nat.mul_add]
  have hj' : j = (n + 31) / 32 := by omega
  subst hj'
  by_cases hn0 : n = 0
  · subst hn0
    have c1 : ¬ (0 : Int) < ((0 : Nat) : Int) := by omega
    simp only [yS, oV, oE, show (0 + 31) / 32 = 0 from rfl, if_true]
    refine W.seqK fun K0 hK0 => ?_
    refine W.seqK fun K hK => W.regionK tt_ok ?_
    simp only [decide_false, exOps_nil, exOps_cons, exOp_eq, exCall_eq, nx_eq, cur_eq, evL, stepQ, ev, lk, putT, erA, inB, opt, bnd, req, ret, onQ, ap, binG, binF, intF, bltQ, bltV, lenF, true_and, and_self, or_false, Nat.reduceEqDiff, Nat.reduceLT, Nat.reduceAdd, if_true, if_false, List.getElem?_cons_zero, Option.bind_some, Option.map_some, tt_22, c1]
    refine hK _ ?_
    clear hK K
    refine W.cond (b := false) (by simp only [ev, lk, Nat.reduceEqDiff, if_true, if_false]) (fun h => absurd h (by simp)) (fun _ => W.exit ?_)
    simp only [thn_normal, thn_exit, inb_exit, if_true]
    clear hK0 K0
    refine hKx _ ?_
    refine W.seqK fun K hK => W.regionK tt_ok ?_
    simp only [exOps_nil, exOps_cons, exOp_eq, nx_eq, cur_eq, stepQ, ev, ofV, lk, putT, erA, inB, opt, bnd, req, ret, onQ, ap, slF, bd, bds, and_true, true_and, Nat.reduceEqDiff, Nat.reduceLT, Nat.reduceAdd, Int.toNat_natCast, Nat.le_refl, if_true, if_false, tt_5, tt_22]
    refine ⟨by omega, ?_⟩
    refine hK _ ?_
    clear hK K
    refine W.ret ?_
    simp only [finT_ret, finTB, resQ, lk, opt, bnd, req, ret, onQ, AV.isTup, true_and, and_self, Nat.reduceEqDiff, if_true, if_false, ne_eq]
    simp [vw, vw.vwL, bnd, req, ret, AV.nmIn]
  · have hj0 : ¬ (n + 31) / 32 = 0 := by omega
    simp only [yS, oV, oE, if_neg hj0, if_neg hn0]
    have hTl := eT_len key info ((n + 31) / 32)
    have hT : List.take n (List.drop 0 (eT key info ((n + 31) / 32))) = expn key info n := rfl
    generalize eT key info ((n + 31) / 32) = T at *
    have hJ : n ≤ 32 * ((n + 31) / 32) := by omega
    generalize (n + 31) / 32 = J at *
    have c1 : ¬ ((32 * J : Nat) : Int) < (n : Int) := by omega
    refine W.seqK fun K0 hK0 => ?_
    refine W.seqK fun K hK => W.regionK tt_ok ?_
    simp only [decide_false, exOps_nil, exOps_cons, exOp_eq, exCall_eq, nx_eq, cur_eq, evL, stepQ, ev, lk, putT, erA, inB, opt, bnd, req, ret, onQ, ap, binG, binF, intF, bltQ, bltV, lenF, true_and, and_self, or_false, Nat.reduceEqDiff, Nat.reduceLT, Nat.reduceAdd, if_true, if_false, List.getElem?_cons_zero, Option.bind_some, Option.map_some, tt_22, c1]
    refine hK _ ?_
    clear hK K
    refine W.cond (b := false) (by simp only [ev, lk, Nat.reduceEqDiff, if_true, if_false]) (fun h => absurd h (by simp)) (fun _ => W.exit ?_)
    simp only [thn_normal, thn_exit, inb_exit, if_true]
    clear hK0 K0
    refine hKx _ ?_
    refine W.seqK fun K hK => W.regionK tt_ok ?_
    simp only [exOps_nil, exOps_cons, exOp_eq, nx_eq, cur_eq, stepQ, ev, ofV, lk, putT, erA, inB, opt, bnd, req, ret, onQ, ap, slF, bd, bds, and_true, true_and, Nat.reduceEqDiff, Nat.reduceLT, Nat.reduceAdd, Int.toNat_natCast, Nat.add_zero, if_true, if_false, tt_5, tt_22]
    refine ⟨⟨by omega, by omega⟩, ?_⟩
    refine hK _ ?_
    clear hK K
    refine W.ret ?_
    simp only [finT_ret, finTB, resQ, lk, opt, bnd, req, ret, onQ, AV.isTup, true_and, and_self, Nat.reduceEqDiff, if_true, if_false, ne_eq]
    simp [vw, vw.vwL, viewR, lk, Ent.row, opt, bnd, req, ret, AV.nmIn, hTl]
    exact ⟨by omega, by rw [if_neg hn0, ← hT, List.drop_zero]⟩
theorem rexpand_fn (key info : List Int) (n : Nat) (hk : key.length = 32) (hi : info.length ≤ 10000) (hn : n ≤ 8160) (hK : ∀ x ∈ key, 0 ≤ x ∧ x < 256) (hB : ∀ x ∈ info, 0 ≤ x ∧ x < 256) :
    FnR Tryd.prog G 25 [.agg [.ints .u8 32 key], .lstI .u8 info, .int .i64 (n : Int)] [] (.tup [.lstI .u8 (expn key info n), .int .i64 0]) [] := by
  refine (rexpand_own key info n hk hi hn hK hB).subT ?_
  have := expn_len key info n
  split
  · next h => subst h; rw [List.length_eq_zero_iff] at this; rw [this]; simp [AV.subL, AV.sub]
  · exact AV.subL_refl _
theorem call25 : Callable Tryd.prog 25 := ⟨_, Tryd.func25, by kernel_rfl, by kernel_rfl⟩
end Go.Proofs.YtageadccfdbmjaaDoor
