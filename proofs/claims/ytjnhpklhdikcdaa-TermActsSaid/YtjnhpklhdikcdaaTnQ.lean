/- The document's pick and Put. -/
import Derived.Test.YtjnhpklhdikcdaaTnP
import Derived.Test.YtjnhpklhdikcdaaSxW
-- TT 3 4 5 9 22 24 27 28 30 35 41 47 51 53 54 63 74
-- SIMP beq_self_eq_true
set_option linter.unusedVariables false
set_option linter.unusedSimpArgs false
namespace Go.Proofs.Ytjnhpklhdikcdaa
open Sx
set_option maxRecDepth 100000
set_option maxHeartbeats 2000000
/-- A term of the document's list. -/
def tmV (t : Nat × List ByteArray) : AV := .agg [.int .u8 (t.1 : Nat), .lstS t.2]
theorem tm_get (T : Tms') (k : Nat) (h : k < T.length) : (T.map tmV).getD k default = .agg [.int .u8 (T[k].1 : Nat), .lstS T[k].2] := by
  simp [List.getD_eq_getElem?_getD, h, tmV]
theorem viewEL_tms {e h : Ents} (x : AV) : ∀ T : Tms', viewEL e h 0 (T.length + 1) (T.map tmV ++ [x]) = bnd (viewE e h x) fun y => ret (T.map tmV ++ [y])
  | [] => by
    simp only [List.length_nil, List.map_nil, List.nil_append, Nat.zero_add, viewEL]
    cases viewE e h x with
    | none => rfl
    | some p => obtain ⟨φ, a⟩ := p; simp [bnd, ret, req]
  | t :: T => by
    rw [List.map_cons, List.cons_append, List.length_cons, viewEL, viewEL_tms x T]
    cases viewE e h x with
    | none => simp [tmV, viewE, viewCs, viewC, req, ret, bnd, AV.nmIn]
    | some p => obtain ⟨φ, a⟩ := p; simp [tmV, viewE, viewCs, viewC, req, ret, bnd, AV.nmIn]
theorem nm_tms (N : Nat → Prop) : ∀ l : Tms', AV.nmInL N (l.map tmV) = True
  | [] => eq_true trivial
  | x :: l => by rw [List.map_cons]; simp [AV.nmInL, nm_tms N l, tmV, AV.nmIn]
theorem pkT_nm {T : Tms'} (hT : T ≠ []) {x : Ac} (hr : x.raw = false) (a : Int) : pkT T x a = nmS ((a.toNat % T.length + 1 : Nat) : Int) := by
  have hp : 0 < T.length := List.length_pos_iff.2 hT
  rw [pkT, if_neg (by rw [hr]; simp [hT]), alL_getD _ _ (by rw [encL_len]; exact Nat.mod_lt _ hp)]
theorem hi0 : (((0 : Nat) : Int) == 0) = true := rfl
theorem rpick_fn (T : Tms') (hl : T.length < 900) (x : Ac) (a : Int) (ha : 0 ≤ a ∧ a < 256) : FnR Try.prog G 24 [.int .u8 a, .ptr 0 0 0 1, .ptr 1 0 0 1] [(0, .obj 30 (acV x)), (1, .obj 27 (.lst 2 (T.map tmV)))] (.str (pkT T x a)) [(0, .obj 30 (acV x)), (1, .obj 27 (.lst 2 (T.map tmV)))] := by
  have hml : (T.map tmV).length = T.length := List.length_map ..
  cases hx : x.raw with
  | true =>
    have hp : pkT T x a = x.s := by rw [pkT, if_pos (.inl hx)]
    rw [hp, acV]
    refine FnR.of_walk (m := 21) (n0 := 16) tt_ok Try.func24 rfl rfl (by simp) (by simp [nmH]) ?_
    rw [show Try.f24.results.toList = [.tmp 4] from rfl]
    refine W.seqK fun K hK => W.regionK tt_ok ?_
    simp only [exOps_nil, exOps_cons, exOp_eq, nx_eq, cur_eq, stepQ, ev, ofV, parT, putT, erA, inB, opt, ret, onQ, ap, true_and, Nat.reduceEqDiff, Nat.reduceLT, Nat.reduceAdd, Nat.zero_add, if_false, reduceCtorEq]
    refine hK _ ?_
    clear hK K
    refine W.seqK fun Kx hKx => ?_
    refine W.seqK fun K hK => W.regionK tt_ok ?_
    simp only [↓gTF, ↓nTF, exOps_nil, exOps_cons, exOp_eq, nx_eq, cur_eq, stepQ, ev, ofV, lk, putT, erA, inB, opt, bnd, req, ret, onQ, ap, pickF, ldP, ldE, ldC, ldS, Kd.agg, comps, csize, takeI, takeC, dropC, fldF, true_and, and_self, Nat.reduceEqDiff, Nat.reduceLT, Nat.reduceLeDiff, Nat.reduceAdd, Nat.reduceSub, Nat.sub_self, Nat.le_refl, Nat.zero_add, if_true, if_false, Bool.false_eq_true, reduceCtorEq, ne_eq, not_false_eq_true, List.getElem?_cons_zero, List.getElem?_cons_succ, Option.bind_some, Option.map_some, tt_4, tt_30, hx]
    refine hK _ ?_
    clear hK K
    refine W.cond (b := true) (by simp only [ev, lk, Nat.reduceEqDiff, if_true, if_false, reduceCtorEq]) (fun _ => ?_) (fun h => absurd h (by simp))
    refine W.seqK fun K hK => W.regionK tt_ok ?_
    simp only [exOps_nil, exOps_cons, exOp_eq, nx_eq, cur_eq, stepQ, ev, lk, putT, erA, inB, opt, bnd, req, ret, onQ, ap, ldP, ldE, ldC, ldS, Kd.agg, comps, csize, takeI, takeC, dropC, fldF, true_and, and_self, Nat.reduceEqDiff, Nat.reduceLT, Nat.reduceLeDiff, Nat.reduceAdd, Nat.reduceSub, Nat.sub_self, Nat.le_refl, Nat.zero_add, if_true, if_false, Bool.false_eq_true, reduceCtorEq, ne_eq, not_false_eq_true, List.getElem?_cons_zero, List.getElem?_cons_succ, Option.bind_some, Option.map_some, tt_9, tt_30]
    refine hK _ ?_
    clear hK K
    refine W.ret ?_
    simp only [fin_ret, finB, resQ, resV, leL, AV.nmIn, entsIn, lk, opt, bnd, req, ret, onQ, AV.isTup, thn_ret, and_true, true_and, and_self, Nat.reduceEqDiff, if_true, if_false, reduceCtorEq]
    simp [hx, Ent.nmIn, AV.nmIn, AV.nmInL]
  | false =>
    by_cases hT : T = []
    · subst hT
      rw [pkT_nil, acV]
      refine FnR.of_walk (m := 21) (n0 := 16) tt_ok Try.func24 rfl rfl (by simp) (by simp [nmH]) ?_
      rw [show Try.f24.results.toList = [.tmp 4] from rfl]
      refine W.seqK fun K hK => W.regionK tt_ok ?_
      simp only [exOps_nil, exOps_cons, exOp_eq, nx_eq, cur_eq, stepQ, ev, ofV, parT, putT, erA, inB, opt, ret, onQ, ap, true_and, Nat.reduceEqDiff, Nat.reduceLT, Nat.reduceAdd, Nat.zero_add, if_false, reduceCtorEq]
      refine hK _ ?_
      clear hK K
      refine W.seqK fun Kx hKx => ?_
      refine W.seqK fun K hK => W.regionK tt_ok ?_
      simp only [↓gFF, ↓nFF, exOps_nil, exOps_cons, exOp_eq, exCall_eq, nx_eq, cur_eq, evL, stepQ, ev, ofV, lk, putT, erA, inB, opt, bnd, req, ret, onQ, ap, binG, binF, intF, pickF, ldP, ldE, ldC, ldS, Kd.agg, comps, csize, takeI, takeC, dropC, fldF, bltQ, bltV, lenF, and_true, true_and, and_self, or_false, Nat.reduceEqDiff, Nat.reduceLT, Nat.reduceLeDiff, Nat.reduceAdd, Nat.reduceSub, Nat.sub_self, Nat.le_refl, Nat.zero_add, if_true, if_false, Bool.false_eq_true, reduceCtorEq, ne_eq, not_false_eq_true, List.getElem?_cons_zero, List.getElem?_cons_succ, Option.bind_some, Option.map_some, tt_4, tt_27, tt_30, hx, List.length_nil, List.map_nil, hi0]
      refine hK _ ?_
      clear hK K
      refine W.cond (b := true) (by simp only [ev, lk, Nat.reduceEqDiff, if_true, if_false, reduceCtorEq]) (fun _ => ?_) (fun h => absurd h (by simp))
      refine W.seqK fun K hK => W.regionK tt_ok ?_
      simp only [exOps_nil, exOps_cons, exOp_eq, nx_eq, cur_eq, stepQ, ev, lk, putT, erA, inB, opt, bnd, req, ret, onQ, ap, ldP, ldE, ldC, ldS, Kd.agg, comps, csize, takeI, takeC, dropC, fldF, true_and, and_self, Nat.reduceEqDiff, Nat.reduceLT, Nat.reduceLeDiff, Nat.reduceAdd, Nat.reduceSub, Nat.sub_self, Nat.le_refl, Nat.zero_add, if_true, if_false, Bool.false_eq_true, reduceCtorEq, ne_eq, not_false_eq_true, List.getElem?_cons_zero, List.getElem?_cons_succ, Option.bind_some, Option.map_some, tt_9, tt_30]
      refine hK _ ?_
      clear hK K
      refine W.ret ?_
      simp only [fin_ret, finB, resQ, resV, leL, AV.nmIn, entsIn, lk, opt, bnd, req, ret, onQ, AV.isTup, thn_ret, and_true, true_and, and_self, Nat.reduceEqDiff, if_true, if_false, reduceCtorEq]
      simp [hx, Ent.nmIn, AV.nmIn, AV.nmInL]
    · have hp : 0 < T.length := List.length_pos_iff.2 hT
      have hn : ((T.length : Int) == 0) = false := by simp; omega
      have hlt := Nat.mod_lt a.toNat hp
      have hm : (IntKind.i64.wrap a).tmod (T.length : Int) = ((a.toNat % T.length : Nat) : Int) := by
        have e : IntKind.i64.wrap a = a := by rw [IntKind.wrap_i64]; omega
        rw [e, Int.tmod_eq_emod_of_nonneg ha.1]
        have : a = (a.toNat : Int) := by omega
        conv => lhs; rw [this]
        rfl
      have hw : IntKind.i64.wrap (((a.toNat % T.length : Nat) : Int) + 1) = ((a.toNat % T.length + 1 : Nat) : Int) := wrap_up _ (by omega)
      have rn := rname_fn ((a.toNat % T.length + 1 : Nat) : Int) (by omega)
      rw [pkT_nm hT hx, acV]
      generalize nmS ((a.toNat % T.length + 1 : Nat) : Int) = nm at *
      refine FnR.of_walk (m := 21) (n0 := 16) tt_ok Try.func24 rfl rfl (by simp) (by simp [nmH]) ?_
      rw [show Try.f24.results.toList = [.tmp 4] from rfl]
      refine W.seqK fun K hK => W.regionK tt_ok ?_
      simp only [exOps_nil, exOps_cons, exOp_eq, nx_eq, cur_eq, stepQ, ev, ofV, parT, putT, erA, inB, opt, ret, onQ, ap, true_and, Nat.reduceEqDiff, Nat.reduceLT, Nat.reduceAdd, Nat.zero_add, if_false, reduceCtorEq]
      refine hK _ ?_
      clear hK K
      refine W.seqK fun Kx hKx => ?_
      refine W.seqK fun K hK => W.regionK tt_ok ?_
      simp only [↓gFF, ↓nFF, exOps_nil, exOps_cons, exOp_eq, exCall_eq, nx_eq, cur_eq, evL, stepQ, ev, ofV, lk, putT, erA, inB, opt, bnd, req, ret, onQ, ap, binG, binF, intF, pickF, ldP, ldE, ldC, ldS, Kd.agg, comps, csize, takeI, takeC, dropC, fldF, bltQ, bltV, lenF, and_true, true_and, and_self, or_false, Nat.reduceEqDiff, Nat.reduceLT, Nat.reduceLeDiff, Nat.reduceAdd, Nat.reduceSub, Nat.sub_self, Nat.le_refl, Nat.zero_add, if_true, if_false, Bool.false_eq_true, reduceCtorEq, ne_eq, not_false_eq_true, List.getElem?_cons_zero, List.getElem?_cons_succ, Option.bind_some, Option.map_some, tt_4, tt_27, tt_30, hx, hml, hn]
      refine hK _ ?_
      clear hK K
      refine W.cond (b := false) (by simp only [ev, lk, Nat.reduceEqDiff, if_true, if_false, reduceCtorEq]) (fun h => absurd h (by simp)) (fun _ => W.skip ?_)
      simp only [thn_normal]
      refine hKx _ ?_
      refine W.seqK fun K hK => W.regionK tt_ok ?_
      simp only [exOps_cons, exOp_eq, exCall_eq, nx_eq, cur_eq, evL, stepQ, ev, ofV, lk, putT, erA, inB, opt, bnd, req, ret, onQ, ap, binG, binF, intF, ldP, ldE, ldC, ldS, Kd.agg, comps, csize, takeI, takeC, dropC, bltQ, bltV, lenF, cvQ, and_true, true_and, and_self, or_false, Nat.reduceEqDiff, Nat.reduceLT, Nat.reduceLeDiff, Nat.reduceAdd, Nat.reduceSub, Nat.sub_self, Nat.le_refl, if_true, if_false, Bool.false_eq_true, reduceCtorEq, ne_eq, List.getElem?_cons_zero, Option.bind_some, Option.map_some, tt_3, tt_5, tt_27, hml, hm, hw]
      refine ⟨by omega, ?_⟩
      refine CallK.pure _ _ rn call16 (by simp only [AV.nmIn, bnd, req, ret, onQ, AV.isTup, isTupL, true_and, and_self, Bool.false_eq_true, List.append_nil, vw.vwL, vw, AV.free, Bool.or_self]; all_goals (and_intros <;> first | exact AV.subL_refl _ | omega | (simp [AV.sub]; done) | rfl | (simp [AV.subL_refl]; done) | (simp; exact AV.subL_refl _))) ?_
      simp only [exOps_nil, exOps_cons, exOp_eq, nx_eq, cur_eq, stepQ, ev, lk, putT, erA, inB, opt, ret, onQ, ap, true_and, Nat.reduceEqDiff, Nat.reduceLT, Nat.reduceAdd, if_true, if_false, reduceCtorEq]
      refine hK _ ?_
      clear hK K
      refine W.ret ?_
      simp only [fin_ret, finB, resQ, resV, leL, AV.nmIn, entsIn, lk, opt, bnd, req, ret, onQ, AV.isTup, and_true, true_and, and_self, Nat.reduceEqDiff, if_true, if_false, reduceCtorEq]
      simp [hx, Ent.nmIn, AV.nmIn, AV.nmInL]
theorem rput_bad (T : Tms') (k : Nat) (ps : List ByteArray) (hl7 : ps.length ≤ 7) (h : ¬ okP ps) : FnR Try.prog G 27 [.lst 2 (T.map tmV), .int .u8 (k : Nat), .lstS ps] [] (.tup [.lst 2 (T.map tmV), .str eS]) [] := by
  have cj : FnR Try.prog G 35 [.int .u8 (k : Nat), .lstS ps] [] (.tup [.str eS, .int .i64 3]) [] := by
    obtain ⟨pre, bad, post, h1, h2, h3⟩ := bad_split ps h
    refine rjoin_bad _ ps hl7 pre.length (by rw [h1]; simp) (fun j hj => ?_) ?_
    · rw [h1, List.getD_eq_getElem?_getD, List.getElem?_append_left hj, List.getElem?_eq_getElem hj]
      exact h2 _ (List.getElem_mem hj)
    · rw [h1, List.getD_eq_getElem?_getD]; simpa using h3
  refine FnR.of_walkT (m := 64) tt_ok Try.func27 rfl rfl (by simp) ?_
  rw [show Try.f27.results.toList = [.tmp 6, .tmp 7] from rfl]
  refine W.seqK fun K hK => W.regionK tt_ok ?_
  simp only [exOps_nil, exOps_cons, exOp_eq, nx_eq, cur_eq, stepQ, ev, ofV, parT, putT, erA, inB, opt, ret, onQ, ap, true_and, Nat.reduceEqDiff, Nat.reduceLT, Nat.reduceAdd, Nat.zero_add, if_false, reduceCtorEq]
  refine hK _ ?_
  clear hK K
  refine W.seqK fun K hK => W.regionK tt_ok ?_
  simp only [exOps_cons, exOp_eq, exCall_eq, nx_eq, cur_eq, evL, stepQ, ev, lk, putT, erA, inB, opt, ret, onQ, ap, true_and, Nat.reduceEqDiff, Nat.reduceLT, Nat.reduceAdd, if_true, if_false, reduceCtorEq, Option.bind_some, Option.map_some]
  refine CallK.pure _ _ cj call35 (by simp only [AV.nmIn, bnd, req, ret, onQ, AV.isTup, isTupL, true_and, and_self, Bool.false_eq_true, List.append_nil, vw.vwL, vw, AV.free, AV.freeL, Bool.or_self]; all_goals (and_intros <;> first | exact AV.subL_refl _ | omega | (simp [AV.sub]; done) | rfl | (simp [AV.subL_refl]; done) | (simp; exact AV.subL_refl _))) ?_
  simp only [exOps_nil, exOps_cons, exOp_eq, nx_eq, cur_eq, stepQ, ev, lk, putT, erA, inB, opt, ret, onQ, ap, true_and, Nat.reduceEqDiff, Nat.reduceLT, Nat.reduceAdd, if_true, if_false, reduceCtorEq, List.getElem?_cons_zero, List.getElem?_cons_succ]
  refine hK _ ?_
  clear hK K
  refine W.seqK fun Kx hKx => ?_
  refine W.seqK fun K hK => W.regionK tt_ok ?_
  simp only [Int.reduceBNe, exOps_nil, exOps_cons, exOp_eq, nx_eq, cur_eq, stepQ, ev, ofV, lk, putT, erA, inB, opt, bnd, req, ret, onQ, ap, binG, binF, intF, true_and, and_self, Nat.reduceEqDiff, Nat.reduceLT, Nat.reduceAdd, if_true, if_false, reduceCtorEq]
  refine hK _ ?_
  clear hK K
  refine W.cond (b := true) (by simp only [ev, lk, Nat.reduceEqDiff, if_true, if_false, reduceCtorEq]) (fun _ => ?_) (fun h => absurd h (by simp))
  refine W.seqK fun K hK => W.regionK tt_ok ?_
  simp only [exOps_nil, exOps_cons, exOp_eq, nx_eq, cur_eq, stepQ, ev, ofV, lk, putT, erA, inB, opt, ret, onQ, ap, true_and, Nat.reduceEqDiff, Nat.reduceLT, Nat.reduceAdd, if_true, if_false, reduceCtorEq]
  refine hK _ ?_
  clear hK K
  refine W.ret ?_
  simp only [finT_ret, finTB, resQ, lk, opt, bnd, req, ret, onQ, AV.isTup, thn_ret, true_and, and_self, Nat.reduceEqDiff, if_true, if_false, reduceCtorEq, ne_eq]
  simp [vw, vw.vwL, bnd, req, ret, AV.nmIn, eS]
theorem rput_ok (T : Tms') (hl : T.length < 900) (k : Nat) (ps : List ByteArray) (hl7 : ps.length ≤ 7) (h : okP ps) (m : Nat) (hm : m ≤ T.length) (hno : ∀ j t, j < m → isAt T j t → t ≠ (k, ps)) (hat : m < T.length → isAt T m (k, ps)) :
    FnR Try.prog G 27 [.lst 2 (T.map tmV), .int .u8 (k : Nat), .lstS ps] [] (.tup [.lst 2 ((if m < T.length then T else T ++ [(k, ps)]).map tmV), .str (nmS ((m + 1 : Nat) : Int))]) [] := by
  have cj := rjoin_fn (k : Nat) ps hl7 h
  have hml : (T.map tmV).length = T.length := List.length_map ..
  refine FnR.of_walkT (m := 64) tt_ok Try.func27 rfl rfl (by simp) ?_
  rw [show Try.f27.results.toList = [.tmp 6, .tmp 7] from rfl]
  refine W.seqK fun K hK => W.regionK tt_ok ?_
  simp only [exOps_nil, exOps_cons, exOp_eq, nx_eq, cur_eq, stepQ, ev, ofV, parT, putT, erA, inB, opt, ret, onQ, ap, true_and, Nat.reduceEqDiff, Nat.reduceLT, Nat.reduceAdd, Nat.zero_add, if_false, reduceCtorEq]
  refine hK _ ?_
  clear hK K
  refine W.seqK fun K hK => W.regionK tt_ok ?_
  simp only [exOps_cons, exOp_eq, exCall_eq, nx_eq, cur_eq, evL, stepQ, ev, lk, putT, erA, inB, opt, ret, onQ, ap, true_and, Nat.reduceEqDiff, Nat.reduceLT, Nat.reduceAdd, if_true, if_false, reduceCtorEq, Option.bind_some, Option.map_some]
  refine CallK.pure _ _ cj call35 (by simp only [AV.nmIn, bnd, req, ret, onQ, AV.isTup, isTupL, true_and, and_self, Bool.false_eq_true, List.append_nil, vw.vwL, vw, AV.free, AV.freeL, Bool.or_self]; all_goals (and_intros <;> first | exact AV.subL_refl _ | omega | (simp [AV.sub]; done) | rfl | (simp [AV.subL_refl]; done) | (simp; exact AV.subL_refl _))) ?_
  simp only [exOps_nil, exOps_cons, exOp_eq, nx_eq, cur_eq, stepQ, ev, lk, putT, erA, inB, opt, ret, onQ, ap, true_and, Nat.reduceEqDiff, Nat.reduceLT, Nat.reduceAdd, if_true, if_false, reduceCtorEq, List.getElem?_cons_zero, List.getElem?_cons_succ]
  refine hK _ ?_
  clear hK K
  refine W.seqK fun Kx hKx => ?_
  refine W.seqK fun K hK => W.regionK tt_ok ?_
  simp only [Int.reduceBNe, exOps_nil, exOps_cons, exOp_eq, nx_eq, cur_eq, stepQ, ev, ofV, lk, putT, erA, inB, opt, bnd, req, ret, onQ, ap, binG, binF, intF, true_and, and_self, Nat.reduceEqDiff, Nat.reduceLT, Nat.reduceAdd, if_true, if_false, reduceCtorEq]
  refine hK _ ?_
  clear hK K
  refine W.cond (b := false) (by simp only [ev, lk, Nat.reduceEqDiff, if_true, if_false, reduceCtorEq]) (fun h => absurd h (by simp)) (fun _ => W.skip ?_)
  simp only [thn_normal]
  refine hKx _ ?_
  refine W.seqK fun Ky hKy => ?_
  refine W.seqK fun K hK => W.regionK tt_ok ?_
  simp only [exOps_nil, exOps_cons, exOp_eq, nx_eq, cur_eq, stepQ, ev, ofV, putT, erA, inB, opt, ret, onQ, ap, true_and, Nat.reduceEqDiff, Nat.reduceLT, Nat.reduceAdd, if_false, reduceCtorEq]
  refine hK _ ?_
  clear hK K
  refine W.blockK ?_
  refine W.loopK (fun j : Nat => j ≤ m) (fun j => ⟨[(0, .lst 2 (T.map tmV)), (1, .int .u8 (k : Nat)), (2, .lstS ps), (10, .int .i64 (j : Int))], [], 512, 64⟩) (fun j => m - j) 0 (by simp) (by simp [wk, leL, lk, nmT, nmE, nmH, AV.nmIn]) ?_
  intro j hj K3 hK3
  have hwk : IntKind.i64.wrap ((j : Int) + 1) = ((j + 1 : Nat) : Int) := wrap_up j (by omega)
  by_cases hlt : j < T.length
  · have c2 : (j : Int) < (T.length : Nat) := by omega
    have he := tm_get T j hlt
    by_cases hjm : j < m
    · have hne := hno j T[j] hjm (List.getElem?_eq_getElem hlt)
      obtain ⟨kd, qs, htj⟩ : ∃ kd qs, T[j] = (kd, qs) := ⟨_, _, rfl⟩
      rw [htj] at he hne
      dsimp only at he
      by_cases hkk : kd = k
      · subst hkk
        have c17 := sSame_fn ps ps (by omega)
        have hqs : qs ≠ ps := fun q => hne (by rw [q])
        have c17 : FnR Try.prog G 17 [.lstS qs, .lstS ps] [] (.bool false) [] := by
          by_cases hle : qs.length = ps.length
          · have := sSame_fn qs ps (by omega)
            rw [sameS_eq, decide_eq_false hqs] at this
            exact this
          · have := sSame_len qs ps hle
            rw [sameS_eq, decide_eq_false hqs] at this
            exact this
        refine W.seqK fun K0 hK0 => ?_
        refine W.seqK fun K hK => W.regionK tt_ok ?_
        simp only [decide_true, exOps_nil, exOps_cons, exOp_eq, exCall_eq, nx_eq, cur_eq, evL, stepQ, ev, lk, putT, erA, inB, opt, bnd, req, ret, onQ, ap, binG, binF, intF, bltQ, bltV, lenF, true_and, and_self, or_false, Nat.reduceEqDiff, Nat.reduceLT, Nat.reduceAdd, if_true, if_false, reduceCtorEq, List.getElem?_cons_zero, Option.bind_some, Option.map_some, tt_27, c2, hml]
        refine hK _ ?_
        clear hK K
        refine W.cond (b := true) (by simp only [ev, lk, Nat.reduceEqDiff, if_true, if_false, reduceCtorEq]) (fun _ => W.skip ?_) (fun h => absurd h (by simp))
        rw [thn_normal]
        refine hK0 _ ?_
        clear hK0 K0
        refine W.seqK fun K hK => W.blockK ?_
        refine W.seqK fun K hK => W.regionK tt_ok ?_
        simp only [↓gTT, ↓nTT, exOps_cons, exOp_eq, exCall_eq, nx_eq, cur_eq, evL, stepQ, ev, lk, putT, erA, inB, opt, bnd, req, ret, onQ, ap, binG, binF, intF, Kd.elem, ixA, asI, ldP, ldC, ldS, Kd.agg, comps, csize, takeI, takeC, dropC, fldF, and_true, true_and, and_self, Nat.reduceEqDiff, Nat.reduceLT, Nat.reduceLeDiff, Nat.reduceAdd, Nat.reduceSub, Nat.sub_self, Int.toNat_natCast, Nat.le_refl, if_true, if_false, Bool.false_eq_true, reduceCtorEq, ne_eq, not_false_eq_true, List.getElem?_cons_zero, List.getElem?_cons_succ, Option.bind_some, Option.map_some, tt_5, tt_27, tt_35, tt_41, beq_self_eq_true, he, hml, Int.toNat_natCast]
        repeat (refine ⟨by omega, ?_⟩)
        refine CallK.pure _ _ c17 call17 (by simp only [AV.nmIn, bnd, req, ret, onQ, AV.isTup, isTupL, true_and, and_self, Bool.false_eq_true, List.append_nil, vw.vwL, vw, AV.free, Bool.or_self]; all_goals (and_intros <;> first | exact AV.subL_refl _ | omega | (simp [AV.sub]; done) | rfl | (simp [AV.subL_refl]; done) | (simp; exact AV.subL_refl _))) ?_
        simp only [exOps_nil, exOps_cons, exOp_eq, nx_eq, cur_eq, stepQ, ev, lk, putT, erA, inB, opt, bnd, req, ret, onQ, ap, pickF, true_and, and_self, Nat.reduceEqDiff, Nat.reduceLT, Nat.reduceAdd, if_true, if_false, reduceCtorEq]
        refine hK _ ?_
        clear hK K
        refine W.cond (b := false) (by simp only [ev, lk, Nat.reduceEqDiff, if_true, if_false, reduceCtorEq]) (fun h => absurd h (by simp)) (fun _ => W.skip ?_)
        simp only [thn_normal, inb_normal]
        refine hK _ ?_
        refine W.region tt_ok ?_
        simp only [exOps_nil, exOps_cons, exOp_eq, nx_eq, cur_eq, stepQ, ev, ofV, lk, putT, erA, inB, opt, bnd, req, ret, onQ, ap, binG, binF, intF, thn_normal, true_and, and_self, Nat.reduceEqDiff, Nat.reduceLT, Nat.reduceAdd, if_true, if_false, reduceCtorEq, hwk]
        refine hK3 _ (j + 1) (by omega) (by omega) ?_
        simp [wk, leL, lk, nmT, nmE, nmH, AV.nmIn]
      · have hkk' : (((kd : Nat) : Int) == ((k : Nat) : Int)) = false := by rw [beq_eq_false_iff_ne]; omega
        refine W.seqK fun K0 hK0 => ?_
        refine W.seqK fun K hK => W.regionK tt_ok ?_
        simp only [decide_true, exOps_nil, exOps_cons, exOp_eq, exCall_eq, nx_eq, cur_eq, evL, stepQ, ev, lk, putT, erA, inB, opt, bnd, req, ret, onQ, ap, binG, binF, intF, bltQ, bltV, lenF, true_and, and_self, or_false, Nat.reduceEqDiff, Nat.reduceLT, Nat.reduceAdd, if_true, if_false, reduceCtorEq, List.getElem?_cons_zero, Option.bind_some, Option.map_some, tt_27, c2, hml]
        refine hK _ ?_
        clear hK K
        refine W.cond (b := true) (by simp only [ev, lk, Nat.reduceEqDiff, if_true, if_false, reduceCtorEq]) (fun _ => W.skip ?_) (fun h => absurd h (by simp))
        rw [thn_normal]
        refine hK0 _ ?_
        clear hK0 K0
        refine W.seqK fun K hK => W.blockK ?_
        refine W.seqK fun K hK => W.regionK tt_ok ?_
        simp only [↓gFT, ↓nFT, exOps_nil, exOps_cons, exOp_eq, nx_eq, cur_eq, stepQ, ev, ofV, lk, putT, erA, inB, opt, bnd, req, ret, onQ, ap, binG, binF, intF, pickF, Kd.elem, ixA, asI, ldP, ldC, ldS, Kd.agg, comps, csize, takeI, takeC, dropC, fldF, and_true, true_and, and_self, Nat.reduceEqDiff, Nat.reduceLT, Nat.reduceLeDiff, Nat.reduceAdd, Nat.reduceSub, Nat.sub_self, Int.toNat_natCast, Nat.le_refl, if_true, if_false, Bool.false_eq_true, reduceCtorEq, ne_eq, not_false_eq_true, List.getElem?_cons_zero, List.getElem?_cons_succ, Option.bind_some, Option.map_some, tt_5, tt_27, tt_41, he, hml, hkk', Int.toNat_natCast]
        repeat (refine ⟨by omega, ?_⟩)
        refine hK _ ?_
        clear hK K
        refine W.cond (b := false) (by simp only [ev, lk, Nat.reduceEqDiff, if_true, if_false, reduceCtorEq]) (fun h => absurd h (by simp)) (fun _ => W.skip ?_)
        simp only [thn_normal, inb_normal]
        refine hK _ ?_
        refine W.region tt_ok ?_
        simp only [exOps_nil, exOps_cons, exOp_eq, nx_eq, cur_eq, stepQ, ev, ofV, lk, putT, erA, inB, opt, bnd, req, ret, onQ, ap, binG, binF, intF, thn_normal, true_and, and_self, Nat.reduceEqDiff, Nat.reduceLT, Nat.reduceAdd, if_true, if_false, reduceCtorEq, hwk]
        refine hK3 _ (j + 1) (by omega) (by omega) ?_
        simp [wk, leL, lk, nmT, nmE, nmH, AV.nmIn]
    · obtain rfl : j = m := by omega
      have htj : T[j] = (k, ps) := by
        have := hat hlt
        rw [isAt, List.getElem?_eq_getElem hlt] at this
        exact Option.some.inj this
      rw [htj] at he
      dsimp only at he
      have c17 := sSame_fn ps ps (by omega)
      rw [sEqs] at c17
      have rn := rname_fn ((j + 1 : Nat) : Int) (by omega)
      rw [if_pos hlt]
      generalize nmS ((j + 1 : Nat) : Int) = nm at *
      refine W.seqK fun K0 hK0 => ?_
      refine W.seqK fun K hK => W.regionK tt_ok ?_
      simp only [decide_true, exOps_nil, exOps_cons, exOp_eq, exCall_eq, nx_eq, cur_eq, evL, stepQ, ev, lk, putT, erA, inB, opt, bnd, req, ret, onQ, ap, binG, binF, intF, bltQ, bltV, lenF, true_and, and_self, or_false, Nat.reduceEqDiff, Nat.reduceLT, Nat.reduceAdd, if_true, if_false, reduceCtorEq, List.getElem?_cons_zero, Option.bind_some, Option.map_some, tt_27, c2, hml]
      refine hK _ ?_
      clear hK K
      refine W.cond (b := true) (by simp only [ev, lk, Nat.reduceEqDiff, if_true, if_false, reduceCtorEq]) (fun _ => W.skip ?_) (fun h => absurd h (by simp))
      rw [thn_normal]
      refine hK0 _ ?_
      clear hK0 K0
      refine W.seqK fun K hK => W.blockK ?_
      refine W.seqK fun K hK => W.regionK tt_ok ?_
      simp only [↓gTT, ↓nTT, exOps_cons, exOp_eq, exCall_eq, nx_eq, cur_eq, evL, stepQ, ev, lk, putT, erA, inB, opt, bnd, req, ret, onQ, ap, binG, binF, intF, Kd.elem, ixA, asI, ldP, ldC, ldS, Kd.agg, comps, csize, takeI, takeC, dropC, fldF, and_true, true_and, and_self, Nat.reduceEqDiff, Nat.reduceLT, Nat.reduceLeDiff, Nat.reduceAdd, Nat.reduceSub, Nat.sub_self, Int.toNat_natCast, Nat.le_refl, if_true, if_false, Bool.false_eq_true, reduceCtorEq, ne_eq, not_false_eq_true, List.getElem?_cons_zero, List.getElem?_cons_succ, Option.bind_some, Option.map_some, tt_5, tt_27, tt_35, tt_41, beq_self_eq_true, he, hml, Int.toNat_natCast]
      repeat (refine ⟨by omega, ?_⟩)
      refine CallK.pure _ _ c17 call17 (by simp only [AV.nmIn, bnd, req, ret, onQ, AV.isTup, isTupL, true_and, and_self, Bool.false_eq_true, List.append_nil, vw.vwL, vw, AV.free, Bool.or_self]; all_goals (and_intros <;> first | exact AV.subL_refl _ | omega | (simp [AV.sub]; done) | rfl | (simp [AV.subL_refl]; done) | (simp; exact AV.subL_refl _))) ?_
      simp only [exOps_nil, exOps_cons, exOp_eq, nx_eq, cur_eq, stepQ, ev, lk, putT, erA, inB, opt, bnd, req, ret, onQ, ap, pickF, true_and, and_self, Nat.reduceEqDiff, Nat.reduceLT, Nat.reduceAdd, if_true, if_false, reduceCtorEq]
      refine hK _ ?_
      clear hK K
      refine W.cond (b := true) (by simp only [ev, lk, Nat.reduceEqDiff, if_true, if_false, reduceCtorEq]) (fun _ => ?_) (fun h => absurd h (by simp))
      refine W.seqK fun K hK => W.regionK tt_ok ?_
      simp only [exOps_cons, exOp_eq, exCall_eq, nx_eq, cur_eq, evL, stepQ, ev, ofV, lk, putT, erA, inB, opt, bnd, req, ret, onQ, ap, binG, binF, intF, true_and, and_self, Nat.reduceEqDiff, Nat.reduceLT, Nat.reduceAdd, if_true, if_false, reduceCtorEq, Option.bind_some, Option.map_some, hwk]
      refine CallK.pure _ _ rn call16 (by simp only [AV.nmIn, bnd, req, ret, onQ, AV.isTup, isTupL, true_and, and_self, Bool.false_eq_true, List.append_nil, vw.vwL, vw, AV.free, Bool.or_self]; all_goals (and_intros <;> first | exact AV.subL_refl _ | omega | (simp [AV.sub]; done) | rfl | (simp [AV.subL_refl]; done) | (simp; exact AV.subL_refl _))) ?_
      simp only [exOps_nil, exOps_cons, exOp_eq, nx_eq, cur_eq, stepQ, ev, lk, putT, erA, inB, opt, ret, onQ, ap, true_and, Nat.reduceEqDiff, Nat.reduceLT, Nat.reduceAdd, if_true, if_false, reduceCtorEq]
      refine hK _ ?_
      clear hK K
      refine W.ret ?_
      simp only [finT_ret, finTB, resQ, lk, opt, bnd, req, ret, onQ, AV.isTup, thn_ret, inb_ret, true_and, and_self, Nat.reduceEqDiff, if_true, if_false, reduceCtorEq, ne_eq]
      simp [vw, vw.vwL, bnd, req, ret, AV.nmIn]
  · obtain rfl : j = T.length := by omega
    have hjm : m = T.length := by omega
    subst hjm
    have c2 : ¬ ((T.length : Nat) : Int) < (T.length : Nat) := by omega
    have rn := rname_fn ((T.length + 1 : Nat) : Int) (by omega)
    rw [if_neg (by omega)]
    generalize nmS ((T.length + 1 : Nat) : Int) = nm at *
    refine W.seqK fun K0 hK0 => ?_
    refine W.seqK fun K hK => W.regionK tt_ok ?_
    simp only [decide_false, exOps_nil, exOps_cons, exOp_eq, exCall_eq, nx_eq, cur_eq, evL, stepQ, ev, lk, putT, erA, inB, opt, bnd, req, ret, onQ, ap, binG, binF, intF, bltQ, bltV, lenF, true_and, and_self, or_false, Nat.reduceEqDiff, Nat.reduceLT, Nat.reduceAdd, if_true, if_false, reduceCtorEq, List.getElem?_cons_zero, Option.bind_some, Option.map_some, tt_27, c2, hml]
    refine hK _ ?_
    clear hK K
    refine W.cond (b := false) (by simp only [ev, lk, Nat.reduceEqDiff, if_true, if_false, reduceCtorEq]) (fun h => absurd h (by simp)) (fun _ => W.exit ?_)
    simp only [thn_normal, thn_exit, inb_exit, if_true]
    clear hK0 K0
    refine hKy _ ?_
    refine W.seqK fun K hK => W.regionK tt_ok ?_
    simp only [exOps_nil, exOps_cons, exOp_eq, exCall_eq, nx_eq, cur_eq, evL, evP, stepQ, ev, lk, putT, erA, inB, opt, bnd, req, ret, onQ, ap, up, er, AV.isTup, AV.isAgg, Kd.agg, comps, szL, csize, takeI, takeC, dropC, stP, stE, stC, stS, bltQ, bltV, appQ, appV, srcQ, rowOf, Row.len, Row.sz, Row.take, Row.app, bldF, bldA, bldS, bslQ, zeroCs, cellsRow, strsOf, and_true, true_and, and_self, and_false, or_false, Nat.reduceEqDiff, Nat.reduceLT, Nat.reduceLeDiff, Nat.reduceAdd, Nat.reduceSub, Nat.reduceMul, Nat.sub_self, Nat.le_refl, Nat.zero_le, Nat.add_zero, Nat.zero_add, if_true, if_false, Bool.false_eq_true, reduceCtorEq, List.getElem?_cons_zero, List.getElem?_cons_succ, Option.bind_some, Option.map_some, List.append_nil, List.nil_append, List.cons_append, tt_5, tt_9, tt_35, tt_41, List.flatten_nil, List.length_nil, List.replicate_zero, List.flatten_nil, List.take_nil, List.nil_append]
    refine ⟨⟨by omega, by omega⟩, by rfl, ?_⟩
    refine hK _ ?_
    clear hK K
    refine W.seqK fun K hK => W.regionK tt_ok ?_
    simp only [exOps_nil, exOps_cons, exOp_eq, exCall_eq, nx_eq, cur_eq, evL, evP, stepQ, ev, lk, putT, erA, inB, opt, bnd, req, ret, onQ, ap, up, er, Kd.agg, comps, bltQ, bltV, appQ, appV, srcQ, rowOf, Row.len, Row.sz, Row.take, Row.app, bldA, bslQ, zeroCs, cellsRow, chunks, ones, and_true, true_and, and_self, or_false, Nat.reduceEqDiff, Nat.reduceLT, Nat.reduceAdd, Nat.reduceMul, Nat.le_refl, Nat.zero_le, Nat.zero_add, if_true, if_false, cond_true, reduceCtorEq, Option.bind_some, Option.map_some, List.nil_append, tt_27, tt_41, List.flatten_nil, List.length_nil, List.replicate_zero, List.flatten_nil, List.take_nil, List.nil_append, hml]
    refine ⟨⟨by omega, by omega⟩, ?_⟩
    refine hK _ ?_
    clear hK K
    have hw1 : IntKind.i64.wrap ((T.length : Int) + 1) = ((T.length + 1 : Nat) : Int) := wrap_up _ (by omega)
    have htk : (T.map tmV).take T.length = T.map tmV := List.take_of_length_le (by omega)
    refine W.seqK fun K hK => W.regionK tt_ok ?_
    simp only [exOps_cons, exOp_eq, exCall_eq, nx_eq, cur_eq, evL, evP, stepQ, ev, ofV, lk, putT, erA, inB, opt, bnd, req, ret, onQ, ap, up, er, AV.isTup, AV.isAgg, binG, binF, intF, ldP, ldE, ldC, ldS, Kd.agg, comps, szL, csize, takeI, takeC, dropC, stC, stS, bltQ, bltV, lenF, appR, appQ, appV, srcQ, Row.len, Row.sz, Row.take, Row.drop, Row.app, Ent.row, bldA, bslQ, zeroCs, cellsRow, chunks, ones, and_true, true_and, and_self, or_false, Nat.reduceEqDiff, Nat.reduceLT, Nat.reduceLeDiff, Nat.reduceAdd, Nat.reduceSub, Nat.reduceMul, Nat.sub_self, Nat.le_refl, Nat.add_zero, Nat.zero_add, if_true, if_false, cond_true, reduceCtorEq, List.getElem?_cons_zero, Option.bind_some, Option.map_some, List.append_nil, List.nil_append, tt_27, tt_41, beq_self_eq_true, lit1, beq_self_eq_true, Bool.and_self, List.flatten_cons, List.flatten_nil, List.length_cons, List.length_nil, List.flatten_nil, List.take_nil, List.nil_append, hml, htk, hw1, List.take_succ_cons, List.drop_zero]
    refine ⟨⟨by omega, by omega⟩, ?_⟩
    refine CallK.pure _ _ rn call16 (by simp only [AV.nmIn, bnd, req, ret, onQ, AV.isTup, isTupL, true_and, and_self, Bool.false_eq_true, List.append_nil, vw.vwL, vw, AV.free, Bool.or_self]; all_goals (and_intros <;> first | exact AV.subL_refl _ | omega | (simp [AV.sub]; done) | rfl | (simp [AV.subL_refl]; done) | (simp; exact AV.subL_refl _))) ?_
    simp only [exOps_nil, exOps_cons, exOp_eq, nx_eq, cur_eq, stepQ, ev, lk, putT, erA, inB, opt, ret, onQ, ap, true_and, Nat.reduceEqDiff, Nat.reduceLT, Nat.reduceAdd, if_true, if_false, reduceCtorEq]
    refine hK _ ?_
    clear hK K
    refine W.ret ?_
    simp only [finT_ret, finTB, resQ, lk, opt, bnd, req, ret, onQ, AV.isTup, true_and, and_self, Nat.reduceEqDiff, if_true, if_false, reduceCtorEq, ne_eq]
    simp [vw, vw.vwL, viewR, viewL, viewE, viewCs, viewC, lk, Ent.row, opt, bnd, req, ret, AV.nmIn, viewEL_tms, viewL, tmV, hml]
theorem call24 : Callable Try.prog 24 := ⟨_, Try.func24, by kernel_rfl, by kernel_rfl⟩
end Go.Proofs.Ytjnhpklhdikcdaa
