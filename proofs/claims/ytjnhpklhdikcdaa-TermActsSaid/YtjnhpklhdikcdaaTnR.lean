/- The document's Put and Dh, by lists of terms. -/
import Derived.Test.YtjnhpklhdikcdaaTnQ
-- TT 3 4 5 9 22 24 27 28 30 35 41 47 51 53 54 63 74
-- SIMP beq_self_eq_true
set_option linter.unusedVariables false
set_option linter.unusedSimpArgs false
namespace Go.Proofs.Ytjnhpklhdikcdaa
open Sx
set_option maxRecDepth 100000
set_option maxHeartbeats 2000000
theorem rput_fn (T : Tms') (hT : okTs T) (hl : T.length < 900) (k : Nat) (ps : List ByteArray) (hk : k < 256) (hne : ps ≠ []) (hl7 : ps.length ≤ 7) :
    FnR Try.prog G 27 [.lst 2 (T.map tmV), .int .u8 (k : Nat), .lstS ps] [] (.tup [.lst 2 ((tPut T k ps).map tmV), .str (putN (encL T) k ps)]) [] := by
  by_cases h : okP ps
  · have ho : okT k ps := ⟨hk, hne, hl7, h⟩
    cases hi : ixOf (encL T) (encS k ps) with
    | some i =>
      have hat := ixOf_some hT ho hi
      have hlt := isAt_lt hat
      have c := rput_ok T hl k ps hl7 h i (by omega) (fun j t hj htj q => by
        subst q
        rw [ixOf, List.findIdx?_eq_some_iff_getElem] at hi
        obtain ⟨h1, _, h3⟩ := hi
        have h4 := h3 j hj
        have e : (encL T)[j] = encS k ps := by
          have h5 := List.getElem?_eq_some_iff.1 htj
          obtain ⟨h6, h7⟩ := h5
          simp only [encL, List.getElem_map, h7]
        rw [e] at h4
        exact h4 (beq_bytes.2 rfl)) (fun _ => hat)
      rw [if_pos hlt] at c
      rw [tPut, if_pos h, hi, (put_some h hi).1]
      exact c
    | none =>
      have c := rput_ok T hl k ps hl7 h T.length (Nat.le_refl _) (fun j t hj htj q => by
        subst q
        obtain ⟨i, h1⟩ := isAt_ix htj
        rw [hi] at h1; cases h1) (fun q => by omega)
      rw [if_neg (by omega)] at c
      rw [tPut, if_pos h, hi, (put_none h hi).1, encL_len]
      exact c
  · rw [putT_no h, putN_no' h]
    exact rput_bad T k ps hl7 h
theorem call27 : Callable Try.prog 27 := ⟨_, Try.func27, by kernel_rfl, by kernel_rfl⟩
theorem call16' : Callable Try.prog 16 := ⟨_, Try.func16, by kernel_rfl, by kernel_rfl⟩
theorem rdh_no (T : Tms') (hl : T.length < 900) (a p : ByteArray) (h : fndI T p = none) : FnR Try.prog G 25 [.lst 2 (T.map tmV), .str a, .str p] [] (.tup [.lst 2 (T.map tmV), .str eS, .bool false]) [] := by
  have hml : (T.map tmV).length = T.length := List.length_map ..
  have c23 : FnR Try.prog G 23 [.lst 2 (T.map tmV), .str p] [] (.int .i64 0) [] := by
    have c := rfind_fn (T.map tmV) (by omega) p
    rw [hml, show fI T.length p = 0 from by rw [fI]; show (match fndI T p with | some i => i + 1 | none => 0) = 0; rw [h]] at c
    exact c
  refine FnR.of_walkT (m := 56) tt_ok Try.func25 rfl rfl (by simp) ?_
  rw [show Try.f25.results.toList = [.tmp 6, .tmp 7, .tmp 8] from rfl]
  refine W.seqK fun K hK => W.regionK tt_ok ?_
  simp only [exOps_nil, exOps_cons, exOp_eq, nx_eq, cur_eq, stepQ, ev, ofV, parT, putT, erA, inB, opt, ret, onQ, ap, true_and, Nat.reduceEqDiff, Nat.reduceLT, Nat.reduceAdd, Nat.zero_add, if_false, reduceCtorEq]
  refine hK _ ?_
  clear hK K
  refine W.seqK fun K hK => W.regionK tt_ok ?_
  simp only [exOps_cons, exOp_eq, exCall_eq, nx_eq, cur_eq, evL, stepQ, ev, lk, putT, erA, inB, opt, ret, onQ, ap, true_and, Nat.reduceEqDiff, Nat.reduceLT, Nat.reduceAdd, if_true, if_false, reduceCtorEq, Option.bind_some, Option.map_some]
  refine CallK.pure _ _ c23 call23 (by simp only [AV.nmIn, bnd, req, ret, onQ, AV.isTup, isTupL, true_and, and_self, Bool.false_eq_true, List.append_nil, vw.vwL, vw, AV.free, Bool.or_self]; all_goals (and_intros <;> first | exact AV.subL_refl _ | omega | (simp [AV.sub]; done) | rfl | (simp [AV.subL_refl]; done) | (simp; exact AV.subL_refl _))) ?_
  simp only [exOps_nil, exOps_cons, exOp_eq, nx_eq, cur_eq, stepQ, ev, lk, putT, erA, inB, opt, ret, onQ, ap, true_and, Nat.reduceEqDiff, Nat.reduceLT, Nat.reduceAdd, if_true, if_false, reduceCtorEq]
  refine hK _ ?_
  clear hK K
  refine W.seqK fun Kx hKx => ?_
  refine W.seqK fun K hK => W.regionK tt_ok ?_
  simp only [↓gTF, ↓nTF, exOps_nil, exOps_cons, exOp_eq, nx_eq, cur_eq, stepQ, ev, ofV, lk, putT, erA, inB, opt, bnd, req, ret, onQ, ap, binG, binF, intF, pickF, true_and, and_self, Nat.reduceEqDiff, Nat.reduceLT, Nat.reduceAdd, if_true, if_false, reduceCtorEq, List.getElem?_cons_zero, List.getElem?_cons_succ, Option.bind_some, beq_self_eq_true]
  refine hK _ ?_
  clear hK K
  refine W.cond (b := true) (by simp only [ev, lk, Nat.reduceEqDiff, if_true, if_false, reduceCtorEq]) (fun _ => ?_) (fun h => absurd h (by simp))
  refine W.seqK fun K hK => W.regionK tt_ok ?_
  simp only [exOps_nil, exOps_cons, exOp_eq, nx_eq, cur_eq, stepQ, ev, ofV, lk, putT, erA, inB, opt, ret, onQ, ap, true_and, Nat.reduceEqDiff, Nat.reduceLT, Nat.reduceAdd, if_true, if_false, reduceCtorEq]
  refine hK _ ?_
  clear hK K
  refine W.ret ?_
  simp only [finT_ret, finTB, resQ, lk, opt, bnd, req, ret, onQ, AV.isTup, thn_ret, true_and, and_self, Nat.reduceEqDiff, if_true, if_false, reduceCtorEq, ne_eq]
  simp [vw, vw.vwL, bnd, req, ret, AV.nmIn, eS]
theorem rdh_oth (T : Tms') (hl : T.length < 900) (a : ByteArray) (i : Nat) (kd : Nat) (qs : List ByteArray) (h : isAt T i (kd, qs)) (hk : kd ≠ 2) : FnR Try.prog G 25 [.lst 2 (T.map tmV), .str a, .str (nmS ((i + 1 : Nat) : Int))] [] (.tup [.lst 2 (T.map tmV), .str eS, .bool false]) [] := by
  have hk2 : (((kd : Nat) : Int) != 2) = true := by rw [bne_iff_ne]; omega
  have hml : (T.map tmV).length = T.length := List.length_map ..
  have hlt := isAt_lt h
  have he := tm_get T i hlt
  have htj : T[i] = (kd, qs) := by
    rw [isAt, List.getElem?_eq_getElem hlt] at h
    exact Option.some.inj h
  rw [htj] at he
  dsimp only at he
  have hfn : fndI T (nmS ((i + 1 : Nat) : Int)) = some i := fnd_at (by omega) hlt
  have c23 : FnR Try.prog G 23 [.lst 2 (T.map tmV), .str (nmS ((i + 1 : Nat) : Int))] [] (.int .i64 ((i + 1 : Nat) : Int)) [] := by
    have c := rfind_fn (T.map tmV) (by omega) (nmS ((i + 1 : Nat) : Int))
    rw [hml, show fI T.length (nmS ((i + 1 : Nat) : Int)) = i + 1 from by rw [fI]; show (match fndI T (nmS ((i + 1 : Nat) : Int)) with | some i => i + 1 | none => 0) = i + 1; rw [hfn]] at c
    exact c
  have hi0' : ((((i + 1 : Nat) : Nat) : Int) == 0) = false := by rw [beq_eq_false_iff_ne]; omega
  have hsb : IntKind.i64.wrap (((i + 1 : Nat) : Int) - 1) = (i : Nat) := by rw [IntKind.wrap_i64]; omega
  generalize nmS ((i + 1 : Nat) : Int) = p at *
  refine FnR.of_walkT (m := 56) tt_ok Try.func25 rfl rfl (by simp) ?_
  rw [show Try.f25.results.toList = [.tmp 6, .tmp 7, .tmp 8] from rfl]
  refine W.seqK fun K hK => W.regionK tt_ok ?_
  simp only [exOps_nil, exOps_cons, exOp_eq, nx_eq, cur_eq, stepQ, ev, ofV, parT, putT, erA, inB, opt, ret, onQ, ap, true_and, Nat.reduceEqDiff, Nat.reduceLT, Nat.reduceAdd, Nat.zero_add, if_false, reduceCtorEq]
  refine hK _ ?_
  clear hK K
  refine W.seqK fun K hK => W.regionK tt_ok ?_
  simp only [exOps_cons, exOp_eq, exCall_eq, nx_eq, cur_eq, evL, stepQ, ev, lk, putT, erA, inB, opt, ret, onQ, ap, true_and, Nat.reduceEqDiff, Nat.reduceLT, Nat.reduceAdd, if_true, if_false, reduceCtorEq, Option.bind_some, Option.map_some]
  refine CallK.pure _ _ c23 call23 (by simp only [AV.nmIn, bnd, req, ret, onQ, AV.isTup, isTupL, true_and, and_self, Bool.false_eq_true, List.append_nil, vw.vwL, vw, AV.free, Bool.or_self]; all_goals (and_intros <;> first | exact AV.subL_refl _ | omega | (simp [AV.sub]; done) | rfl | (simp [AV.subL_refl]; done) | (simp; exact AV.subL_refl _))) ?_
  simp only [exOps_nil, exOps_cons, exOp_eq, nx_eq, cur_eq, stepQ, ev, lk, putT, erA, inB, opt, ret, onQ, ap, true_and, Nat.reduceEqDiff, Nat.reduceLT, Nat.reduceAdd, if_true, if_false, reduceCtorEq]
  refine hK _ ?_
  clear hK K
  refine W.seqK fun Kx hKx => ?_
  refine W.seqK fun K hK => W.regionK tt_ok ?_
  simp only [↓gFF, ↓nFF, exOps_nil, exOps_cons, exOp_eq, nx_eq, cur_eq, stepQ, ev, ofV, lk, putT, erA, inB, opt, bnd, req, ret, onQ, ap, binG, binF, intF, pickF, Kd.elem, ixA, asI, ldP, ldC, ldS, Kd.agg, comps, csize, takeI, takeC, dropC, fldF, and_true, true_and, and_self, Nat.reduceEqDiff, Nat.reduceLT, Nat.reduceLeDiff, Nat.reduceAdd, Nat.reduceSub, Nat.sub_self, Int.toNat_natCast, Nat.le_refl, if_true, if_false, Bool.false_eq_true, reduceCtorEq, ne_eq, not_false_eq_true, List.getElem?_cons_zero, List.getElem?_cons_succ, Option.bind_some, Option.map_some, tt_5, tt_27, tt_41, hi0', hsb, he, hml, hk2, Int.toNat_natCast]
  repeat (refine ⟨by omega, ?_⟩)
  refine hK _ ?_
  clear hK K
  refine W.cond (b := true) (by simp only [ev, lk, Nat.reduceEqDiff, if_true, if_false, reduceCtorEq]) (fun _ => ?_) (fun h => absurd h (by simp))
  refine W.seqK fun K hK => W.regionK tt_ok ?_
  simp only [exOps_nil, exOps_cons, exOp_eq, nx_eq, cur_eq, stepQ, ev, ofV, lk, putT, erA, inB, opt, ret, onQ, ap, true_and, Nat.reduceEqDiff, Nat.reduceLT, Nat.reduceAdd, if_true, if_false, reduceCtorEq]
  refine hK _ ?_
  clear hK K
  refine W.ret ?_
  simp only [finT_ret, finTB, resQ, lk, opt, bnd, req, ret, onQ, AV.isTup, thn_ret, true_and, and_self, Nat.reduceEqDiff, if_true, if_false, reduceCtorEq, ne_eq]
  simp [vw, vw.vwL, bnd, req, ret, AV.nmIn, eS]
theorem view_strs (ss : List ByteArray) : Ok (viewR 1 0 ss.length (.strs ss)) (.lstS ss) := by
  simp [viewR, req, ret, Ok, List.take_of_length_le]
  exact ⟨True, trivial⟩
theorem one_nm (T : Tms') : ∀ i x, lk [(0, AV.lst 2 (T.map tmV))] i = some x → x.nmIn (Nm ([] : Ents)) := by
  intro i x h
  simp only [lk] at h
  split at h
  · cases h; simp [AV.nmIn]
  · cases h
theorem rdh_have (T : Tms') (hT : okTs T) (hl : T.length < 900) (a : ByteArray) (i : Nat) (y : ByteArray) (h : isAt T i (2, [y])) : FnR Try.prog G 25 [.lst 2 (T.map tmV), .str a, .str (nmS ((i + 1 : Nat) : Int))] [] (.tup [.lst 2 ((tPut T 3 (srt a y)).map tmV), .str (putN (encL T) 3 (srt a y)), .bool (nB (putN (encL T) 3 (srt a y)))]) [] := by
  have cp := rput_fn T hT hl 3 (srt a y) (by omega) (fun q => by have := srt_len a y; rw [q] at this; cases this) (by rw [srt_len]; omega)
  generalize hT' : tPut T 3 (srt a y) = T' at *
  generalize putN (encL T) 3 (srt a y) = r at *
  obtain ⟨kd, qs, hkd, hqs⟩ : ∃ kd qs, kd = 2 ∧ qs = [y] := ⟨_, _, rfl, rfl⟩
  rw [← hkd, ← hqs] at h
  have hk2 : (((kd : Nat) : Int) != 2) = false := by rw [hkd]; rfl
  rw [srt] at cp
  cases hlt2 : Op.bytesLess y.toList a.toList with
  | true =>
    rw [if_pos hlt2] at cp
    have hml : (T.map tmV).length = T.length := List.length_map ..
    have hlt := isAt_lt h
    have he := tm_get T i hlt
    have htj : T[i] = (kd, qs) := by
      rw [isAt, List.getElem?_eq_getElem hlt] at h
      exact Option.some.inj h
    rw [htj] at he
    dsimp only at he
    have hfn : fndI T (nmS ((i + 1 : Nat) : Int)) = some i := fnd_at (by omega) hlt
    have c23 : FnR Try.prog G 23 [.lst 2 (T.map tmV), .str (nmS ((i + 1 : Nat) : Int))] [] (.int .i64 ((i + 1 : Nat) : Int)) [] := by
      have c := rfind_fn (T.map tmV) (by omega) (nmS ((i + 1 : Nat) : Int))
      rw [hml, show fI T.length (nmS ((i + 1 : Nat) : Int)) = i + 1 from by rw [fI]; show (match fndI T (nmS ((i + 1 : Nat) : Int)) with | some i => i + 1 | none => 0) = i + 1; rw [hfn]] at c
      exact c
    have hi0' : ((((i + 1 : Nat) : Nat) : Int) == 0) = false := by rw [beq_eq_false_iff_ne]; omega
    have hsb : IntKind.i64.wrap (((i + 1 : Nat) : Int) - 1) = (i : Nat) := by rw [IntKind.wrap_i64]; omega
    generalize nmS ((i + 1 : Nat) : Int) = p at *
    refine FnR.of_walkT (m := 56) tt_ok Try.func25 rfl rfl (by simp) ?_
    rw [show Try.f25.results.toList = [.tmp 6, .tmp 7, .tmp 8] from rfl]
    refine W.seqK fun K hK => W.regionK tt_ok ?_
    simp only [exOps_nil, exOps_cons, exOp_eq, nx_eq, cur_eq, stepQ, ev, ofV, parT, putT, erA, inB, opt, ret, onQ, ap, true_and, Nat.reduceEqDiff, Nat.reduceLT, Nat.reduceAdd, Nat.zero_add, if_false, reduceCtorEq]
    refine hK _ ?_
    clear hK K
    refine W.seqK fun K hK => W.regionK tt_ok ?_
    simp only [exOps_cons, exOp_eq, exCall_eq, nx_eq, cur_eq, evL, stepQ, ev, lk, putT, erA, inB, opt, ret, onQ, ap, true_and, Nat.reduceEqDiff, Nat.reduceLT, Nat.reduceAdd, if_true, if_false, reduceCtorEq, Option.bind_some, Option.map_some]
    refine CallK.pure _ _ c23 call23 (by simp only [AV.nmIn, bnd, req, ret, onQ, AV.isTup, isTupL, true_and, and_self, Bool.false_eq_true, List.append_nil, vw.vwL, vw, AV.free, Bool.or_self]; all_goals (and_intros <;> first | exact AV.subL_refl _ | omega | (simp [AV.sub]; done) | rfl | (simp [AV.subL_refl]; done) | (simp; exact AV.subL_refl _))) ?_
    simp only [exOps_nil, exOps_cons, exOp_eq, nx_eq, cur_eq, stepQ, ev, lk, putT, erA, inB, opt, ret, onQ, ap, true_and, Nat.reduceEqDiff, Nat.reduceLT, Nat.reduceAdd, if_true, if_false, reduceCtorEq]
    refine hK _ ?_
    clear hK K
    refine W.seqK fun Kx hKx => ?_
    refine W.seqK fun K hK => W.regionK tt_ok ?_
    simp only [↓gFF, ↓nFF, exOps_nil, exOps_cons, exOp_eq, nx_eq, cur_eq, stepQ, ev, ofV, lk, putT, erA, inB, opt, bnd, req, ret, onQ, ap, binG, binF, intF, pickF, Kd.elem, ixA, asI, ldP, ldC, ldS, Kd.agg, comps, csize, takeI, takeC, dropC, fldF, and_true, true_and, and_self, Nat.reduceEqDiff, Nat.reduceLT, Nat.reduceLeDiff, Nat.reduceAdd, Nat.reduceSub, Nat.sub_self, Int.toNat_natCast, Nat.le_refl, if_true, if_false, Bool.false_eq_true, reduceCtorEq, ne_eq, not_false_eq_true, List.getElem?_cons_zero, List.getElem?_cons_succ, Option.bind_some, Option.map_some, tt_5, tt_27, tt_41, hi0', hsb, he, hml, hk2, Int.toNat_natCast]
    repeat (refine ⟨by omega, ?_⟩)
    refine hK _ ?_
    clear hK K
    refine W.cond (b := false) (by simp only [ev, lk, Nat.reduceEqDiff, if_true, if_false, reduceCtorEq]) (fun h => absurd h (by simp)) (fun _ => W.skip ?_)
    simp only [thn_normal]
    refine hKx _ ?_
    refine W.seqK fun K hK => W.regionK tt_ok ?_
    simp only [exOps_nil, exOps_cons, exOp_eq, nx_eq, cur_eq, stepQ, ev, ofV, lk, putT, erA, inB, opt, bnd, req, ret, onQ, ap, binG, binF, intF, Kd.elem, ixA, asI, ldP, ldC, ldS, Kd.agg, comps, csize, takeI, takeC, dropC, fldF, and_true, true_and, and_self, Nat.reduceEqDiff, Nat.reduceLT, Nat.reduceLeDiff, Nat.reduceAdd, Nat.reduceSub, Int.reduceLE, Int.reduceToNat, Nat.sub_self, Int.toNat_natCast, Nat.le_refl, if_true, if_false, Bool.false_eq_true, reduceCtorEq, ne_eq, not_false_eq_true, List.getElem?_cons_zero, List.getElem?_cons_succ, Option.bind_some, Option.map_some, tt_9, tt_27, tt_35, tt_41, hsb, he, hml, hqs, Int.toNat_natCast, List.getD_cons_zero]
    refine ⟨⟨by omega, by omega⟩, by simp, ?_⟩
    refine hK _ ?_
    clear hK K
    refine W.seqK fun K hK => W.regionK tt_ok ?_
    simp only [exOps_nil, exOps_cons, exOp_eq, nx_eq, cur_eq, evP, stepQ, ev, lk, putT, erA, inB, opt, bnd, req, ret, onQ, ap, up, er, AV.isTup, AV.isAgg, Kd.agg, comps, szL, csize, takeI, takeC, dropC, stC, stS, Row.len, Row.sz, bldA, bslQ, zeroCs, cellsRow, strsOf, and_true, true_and, and_self, and_false, Nat.reduceEqDiff, Nat.reduceLT, Nat.reduceLeDiff, Nat.reduceAdd, Nat.reduceSub, Nat.reduceMul, Nat.sub_self, Nat.le_refl, Nat.add_zero, Nat.zero_add, if_true, if_false, Bool.false_eq_true, reduceCtorEq, Option.bind_some, Option.map_some, List.append_nil, List.nil_append, List.cons_append, tt_9, tt_35, lit2, List.flatten_cons, List.flatten_nil, List.length_cons, List.length_nil]
    refine hK _ ?_
    clear hK K
    refine W.seqK fun Kj hKj => ?_
    refine W.seqK fun K hK => W.regionK tt_ok ?_
    simp only [exOps_nil, exOps_cons, exOp_eq, nx_eq, cur_eq, stepQ, ev, lk, putT, erA, inB, opt, bnd, req, ret, onQ, ap, binG, binF, strF, true_and, and_self, Nat.reduceEqDiff, Nat.reduceLT, Nat.reduceAdd, if_true, if_false, reduceCtorEq, hlt2]
    refine hK _ ?_
    clear hK K
    refine W.cond (b := true) (by simp only [ev, lk, Nat.reduceEqDiff, if_true, if_false, reduceCtorEq]) (fun _ => ?_) (fun h => absurd h (by simp))
    refine W.region tt_ok ?_
    simp only [exOps_nil, exOps_cons, exOp_eq, nx_eq, cur_eq, evP, stepQ, ev, lk, putT, erA, inB, opt, bnd, req, ret, onQ, ap, up, er, AV.isTup, AV.isAgg, Kd.agg, comps, szL, csize, takeI, takeC, dropC, stC, stS, Row.len, Row.sz, bldA, bslQ, zeroCs, cellsRow, strsOf, thn_normal, and_true, true_and, and_self, and_false, Nat.reduceEqDiff, Nat.reduceLT, Nat.reduceLeDiff, Nat.reduceAdd, Nat.reduceSub, Nat.reduceMul, Nat.sub_self, Nat.le_refl, Nat.add_zero, Nat.zero_add, if_true, if_false, Bool.false_eq_true, reduceCtorEq, Option.bind_some, Option.map_some, List.append_nil, List.nil_append, List.cons_append, tt_9, tt_35, lit2, List.flatten_cons, List.flatten_nil, List.length_cons, List.length_nil]
    refine hKj _ ?_
    refine W.psl 11 576 [(0, .lst 2 (T.map tmV))] [] rfl rfl rfl (view_strs [y, a]) ⟨by simp [leL, lk], by simp [leL], rfl, one_nm T, trivial, trivial⟩ ?_
    refine W.seqK fun K hK => W.regionK tt_ok ?_
    simp only [exOps_cons, exOp_eq, exCall_eq, nx_eq, cur_eq, evL, stepQ, ev, ofV, lk, putT, erA, inB, opt, ret, onQ, ap, true_and, Nat.reduceEqDiff, Nat.reduceLT, Nat.reduceAdd, if_true, if_false, reduceCtorEq, Option.bind_some, Option.map_some]
    refine CallK.pure _ _ cp call27 (by simp only [AV.nmIn, bnd, req, ret, onQ, AV.isTup, isTupL, true_and, and_self, Bool.false_eq_true, List.append_nil, vw.vwL, vw, AV.free, AV.freeL, Bool.or_self]; all_goals (and_intros <;> first | exact AV.subL_refl _ | omega | (simp [AV.sub]; done) | rfl | (simp [AV.subL_refl]; done) | (simp; exact AV.subL_refl _))) ?_
    simp only [exOps_nil, exOps_cons, exOp_eq, nx_eq, cur_eq, stepQ, ev, lk, putT, erA, inB, opt, ret, onQ, ap, true_and, Nat.reduceEqDiff, Nat.reduceLT, Nat.reduceAdd, if_true, if_false, reduceCtorEq, List.getElem?_cons_zero, List.getElem?_cons_succ]
    refine hK _ ?_
    clear hK K
    refine W.seqK fun K hK => W.regionK tt_ok ?_
    simp only [exOps_nil, exOps_cons, exOp_eq, nx_eq, cur_eq, stepQ, ev, ofV, lk, putT, erA, inB, opt, bnd, req, ret, onQ, ap, binG, binF, strF, true_and, and_self, Nat.reduceEqDiff, Nat.reduceLT, Nat.reduceAdd, if_true, if_false, reduceCtorEq]
    refine hK _ ?_
    clear hK K
    refine W.ret ?_
    simp only [finT_ret, finTB, resQ, lk, opt, bnd, req, ret, onQ, AV.isTup, true_and, and_self, Nat.reduceEqDiff, if_true, if_false, reduceCtorEq, ne_eq]
    simp [vw, vw.vwL, bnd, req, ret, AV.nmIn, nB]
  | false =>
    rw [if_neg (by rw [hlt2]; simp)] at cp
    have hml : (T.map tmV).length = T.length := List.length_map ..
    have hlt := isAt_lt h
    have he := tm_get T i hlt
    have htj : T[i] = (kd, qs) := by
      rw [isAt, List.getElem?_eq_getElem hlt] at h
      exact Option.some.inj h
    rw [htj] at he
    dsimp only at he
    have hfn : fndI T (nmS ((i + 1 : Nat) : Int)) = some i := fnd_at (by omega) hlt
    have c23 : FnR Try.prog G 23 [.lst 2 (T.map tmV), .str (nmS ((i + 1 : Nat) : Int))] [] (.int .i64 ((i + 1 : Nat) : Int)) [] := by
      have c := rfind_fn (T.map tmV) (by omega) (nmS ((i + 1 : Nat) : Int))
      rw [hml, show fI T.length (nmS ((i + 1 : Nat) : Int)) = i + 1 from by rw [fI]; show (match fndI T (nmS ((i + 1 : Nat) : Int)) with | some i => i + 1 | none => 0) = i + 1; rw [hfn]] at c
      exact c
    have hi0' : ((((i + 1 : Nat) : Nat) : Int) == 0) = false := by rw [beq_eq_false_iff_ne]; omega
    have hsb : IntKind.i64.wrap (((i + 1 : Nat) : Int) - 1) = (i : Nat) := by rw [IntKind.wrap_i64]; omega
    generalize nmS ((i + 1 : Nat) : Int) = p at *
    refine FnR.of_walkT (m := 56) tt_ok Try.func25 rfl rfl (by simp) ?_
    rw [show Try.f25.results.toList = [.tmp 6, .tmp 7, .tmp 8] from rfl]
    refine W.seqK fun K hK => W.regionK tt_ok ?_
    simp only [exOps_nil, exOps_cons, exOp_eq, nx_eq, cur_eq, stepQ, ev, ofV, parT, putT, erA, inB, opt, ret, onQ, ap, true_and, Nat.reduceEqDiff, Nat.reduceLT, Nat.reduceAdd, Nat.zero_add, if_false, reduceCtorEq]
    refine hK _ ?_
    clear hK K
    refine W.seqK fun K hK => W.regionK tt_ok ?_
    simp only [exOps_cons, exOp_eq, exCall_eq, nx_eq, cur_eq, evL, stepQ, ev, lk, putT, erA, inB, opt, ret, onQ, ap, true_and, Nat.reduceEqDiff, Nat.reduceLT, Nat.reduceAdd, if_true, if_false, reduceCtorEq, Option.bind_some, Option.map_some]
    refine CallK.pure _ _ c23 call23 (by simp only [AV.nmIn, bnd, req, ret, onQ, AV.isTup, isTupL, true_and, and_self, Bool.false_eq_true, List.append_nil, vw.vwL, vw, AV.free, Bool.or_self]; all_goals (and_intros <;> first | exact AV.subL_refl _ | omega | (simp [AV.sub]; done) | rfl | (simp [AV.subL_refl]; done) | (simp; exact AV.subL_refl _))) ?_
    simp only [exOps_nil, exOps_cons, exOp_eq, nx_eq, cur_eq, stepQ, ev, lk, putT, erA, inB, opt, ret, onQ, ap, true_and, Nat.reduceEqDiff, Nat.reduceLT, Nat.reduceAdd, if_true, if_false, reduceCtorEq]
    refine hK _ ?_
    clear hK K
    refine W.seqK fun Kx hKx => ?_
    refine W.seqK fun K hK => W.regionK tt_ok ?_
    simp only [↓gFF, ↓nFF, exOps_nil, exOps_cons, exOp_eq, nx_eq, cur_eq, stepQ, ev, ofV, lk, putT, erA, inB, opt, bnd, req, ret, onQ, ap, binG, binF, intF, pickF, Kd.elem, ixA, asI, ldP, ldC, ldS, Kd.agg, comps, csize, takeI, takeC, dropC, fldF, and_true, true_and, and_self, Nat.reduceEqDiff, Nat.reduceLT, Nat.reduceLeDiff, Nat.reduceAdd, Nat.reduceSub, Nat.sub_self, Int.toNat_natCast, Nat.le_refl, if_true, if_false, Bool.false_eq_true, reduceCtorEq, ne_eq, not_false_eq_true, List.getElem?_cons_zero, List.getElem?_cons_succ, Option.bind_some, Option.map_some, tt_5, tt_27, tt_41, hi0', hsb, he, hml, hk2, Int.toNat_natCast]
    repeat (refine ⟨by omega, ?_⟩)
    refine hK _ ?_
    clear hK K
    refine W.cond (b := false) (by simp only [ev, lk, Nat.reduceEqDiff, if_true, if_false, reduceCtorEq]) (fun h => absurd h (by simp)) (fun _ => W.skip ?_)
    simp only [thn_normal]
    refine hKx _ ?_
    refine W.seqK fun K hK => W.regionK tt_ok ?_
    simp only [exOps_nil, exOps_cons, exOp_eq, nx_eq, cur_eq, stepQ, ev, ofV, lk, putT, erA, inB, opt, bnd, req, ret, onQ, ap, binG, binF, intF, Kd.elem, ixA, asI, ldP, ldC, ldS, Kd.agg, comps, csize, takeI, takeC, dropC, fldF, and_true, true_and, and_self, Nat.reduceEqDiff, Nat.reduceLT, Nat.reduceLeDiff, Nat.reduceAdd, Nat.reduceSub, Int.reduceLE, Int.reduceToNat, Nat.sub_self, Int.toNat_natCast, Nat.le_refl, if_true, if_false, Bool.false_eq_true, reduceCtorEq, ne_eq, not_false_eq_true, List.getElem?_cons_zero, List.getElem?_cons_succ, Option.bind_some, Option.map_some, tt_9, tt_27, tt_35, tt_41, hsb, he, hml, hqs, Int.toNat_natCast, List.getD_cons_zero]
    refine ⟨⟨by omega, by omega⟩, by simp, ?_⟩
    refine hK _ ?_
    clear hK K
    refine W.seqK fun K hK => W.regionK tt_ok ?_
    simp only [exOps_nil, exOps_cons, exOp_eq, nx_eq, cur_eq, evP, stepQ, ev, lk, putT, erA, inB, opt, bnd, req, ret, onQ, ap, up, er, AV.isTup, AV.isAgg, Kd.agg, comps, szL, csize, takeI, takeC, dropC, stC, stS, Row.len, Row.sz, bldA, bslQ, zeroCs, cellsRow, strsOf, and_true, true_and, and_self, and_false, Nat.reduceEqDiff, Nat.reduceLT, Nat.reduceLeDiff, Nat.reduceAdd, Nat.reduceSub, Nat.reduceMul, Nat.sub_self, Nat.le_refl, Nat.add_zero, Nat.zero_add, if_true, if_false, Bool.false_eq_true, reduceCtorEq, Option.bind_some, Option.map_some, List.append_nil, List.nil_append, List.cons_append, tt_9, tt_35, lit2, List.flatten_cons, List.flatten_nil, List.length_cons, List.length_nil]
    refine hK _ ?_
    clear hK K
    refine W.seqK fun Kj hKj => ?_
    refine W.seqK fun K hK => W.regionK tt_ok ?_
    simp only [exOps_nil, exOps_cons, exOp_eq, nx_eq, cur_eq, stepQ, ev, lk, putT, erA, inB, opt, bnd, req, ret, onQ, ap, binG, binF, strF, true_and, and_self, Nat.reduceEqDiff, Nat.reduceLT, Nat.reduceAdd, if_true, if_false, reduceCtorEq, hlt2]
    refine hK _ ?_
    clear hK K
    refine W.cond (b := false) (by simp only [ev, lk, Nat.reduceEqDiff, if_true, if_false, reduceCtorEq]) (fun h => absurd h (by simp)) (fun _ => W.skip ?_)
    simp only [thn_normal]
    refine hKj _ ?_
    refine W.psl 11 464 [(0, .lst 2 (T.map tmV))] [] rfl rfl rfl (view_strs [a, y]) ⟨by simp [leL, lk], by simp [leL], rfl, one_nm T, trivial, trivial⟩ ?_
    refine W.seqK fun K hK => W.regionK tt_ok ?_
    simp only [exOps_cons, exOp_eq, exCall_eq, nx_eq, cur_eq, evL, stepQ, ev, ofV, lk, putT, erA, inB, opt, ret, onQ, ap, true_and, Nat.reduceEqDiff, Nat.reduceLT, Nat.reduceAdd, if_true, if_false, reduceCtorEq, Option.bind_some, Option.map_some]
    refine CallK.pure _ _ cp call27 (by simp only [AV.nmIn, bnd, req, ret, onQ, AV.isTup, isTupL, true_and, and_self, Bool.false_eq_true, List.append_nil, vw.vwL, vw, AV.free, AV.freeL, Bool.or_self]; all_goals (and_intros <;> first | exact AV.subL_refl _ | omega | (simp [AV.sub]; done) | rfl | (simp [AV.subL_refl]; done) | (simp; exact AV.subL_refl _))) ?_
    simp only [exOps_nil, exOps_cons, exOp_eq, nx_eq, cur_eq, stepQ, ev, lk, putT, erA, inB, opt, ret, onQ, ap, true_and, Nat.reduceEqDiff, Nat.reduceLT, Nat.reduceAdd, if_true, if_false, reduceCtorEq, List.getElem?_cons_zero, List.getElem?_cons_succ]
    refine hK _ ?_
    clear hK K
    refine W.seqK fun K hK => W.regionK tt_ok ?_
    simp only [exOps_nil, exOps_cons, exOp_eq, nx_eq, cur_eq, stepQ, ev, ofV, lk, putT, erA, inB, opt, bnd, req, ret, onQ, ap, binG, binF, strF, true_and, and_self, Nat.reduceEqDiff, Nat.reduceLT, Nat.reduceAdd, if_true, if_false, reduceCtorEq]
    refine hK _ ?_
    clear hK K
    refine W.ret ?_
    simp only [finT_ret, finTB, resQ, lk, opt, bnd, req, ret, onQ, AV.isTup, true_and, and_self, Nat.reduceEqDiff, if_true, if_false, reduceCtorEq, ne_eq]
    simp [vw, vw.vwL, bnd, req, ret, AV.nmIn, nB]
end Go.Proofs.Ytjnhpklhdikcdaa
