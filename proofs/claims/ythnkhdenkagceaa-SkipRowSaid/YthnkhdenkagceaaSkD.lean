/- Skipped keys: slices.DeleteFunc, Drop. -/
import Derived.Test.YthnkhdenkagceaaSkC
-- TT 3 4 9 28 33
-- SIMP viewEL_its nm_its
set_option linter.unusedVariables false
set_option linter.unusedSimpArgs false
namespace Go.Proofs.Ythnkhdenkagceaa
open Sx
set_option maxRecDepth 100000
set_option maxHeartbeats 1000000
theorem viewEL_its {e h : Ents} : ∀ l : List It, viewEL e h 0 l.length (l.map itV) = ret (l.map itV)
  | [] => by simp [viewEL]
  | x :: l => by
    rw [List.map_cons, List.length_cons, viewEL, viewEL_its l]
    simp [itV, viewE, req, ret, bnd, AV.nmIn, AV.nmInL]
theorem call27' : Callable Try.prog 27 := ⟨_, Try.func27, by kernel_rfl, by kernel_rfl⟩
/-- What is kept of the first j. -/
def kp (s : ByteArray) (l : List It) (j : Nat) : List It := (l.take j).filter fun x => !hdB s x
def rwK (s : ByteArray) (l : List It) (j : Nat) : List It := kp s l j ++ l.drop (kp s l j).length
theorem kp_le (s : ByteArray) (l : List It) (j : Nat) : (kp s l j).length ≤ j := Nat.le_trans (List.length_filter_le _ _) (by rw [List.length_take]; omega)
theorem kp_le2 (s : ByteArray) (l : List It) (j : Nat) : (kp s l j).length ≤ l.length := Nat.le_trans (List.length_filter_le _ _) (by rw [List.length_take]; omega)
theorem kp_succ (s : ByteArray) (l : List It) (j : Nat) (h : j < l.length) : kp s l (j + 1) = kp s l j ++ (if hdB s l[j] then [] else [l[j]]) := by
  rw [kp, kp, List.take_succ_eq_append_getElem h, List.filter_append]
  congr 1
  cases h : hdB s l[j] <;> simp [List.filter, h]
theorem rwK_len (s : ByteArray) (l : List It) (j : Nat) : (rwK s l j).length = l.length := by
  have := kp_le2 s l j
  rw [rwK, List.length_append, List.length_drop]; omega
theorem rwK_get (s : ByteArray) (l : List It) (j : Nat) (h : j < l.length) : (rwK s l j)[j]'(by rw [rwK_len]; exact h) = l[j] := by
  have := kp_le s l j
  simp only [rwK]
  rw [List.getElem_append_right this, List.getElem_drop]
  congr 1; omega
theorem rwK_keep (s : ByteArray) (l : List It) (j : Nat) (h : j < l.length) (hb : hdB s l[j] = false) : (rwK s l j).set (kp s l j).length l[j] = rwK s l (j + 1) := by
  have h1 := kp_le s l j
  have h2 := kp_succ s l j h
  rw [hb] at h2
  simp only [Bool.false_eq_true, if_false] at h2
  rw [rwK, rwK, h2, List.set_append_right _ _ (Nat.le_refl _), Nat.sub_self, List.drop_eq_getElem_cons (show (kp s l j).length < l.length by omega), List.set_cons_zero]
  simp
theorem rwK_drop (s : ByteArray) (l : List It) (j : Nat) (h : j < l.length) (hb : hdB s l[j] = true) : rwK s l j = rwK s l (j + 1) ∧ kp s l j = kp s l (j + 1) := by
  have h2 := kp_succ s l j h
  rw [hb] at h2
  simp only [if_true, List.append_nil] at h2
  exact ⟨by rw [rwK, rwK, h2], h2.symm⟩
theorem kp_first (s : ByteArray) (l : List It) (f : Nat) (h : f < l.length) (hp : hdB s l[f] = true) (hb : ∀ j (h : j < f), hdB s (l[j]'(by omega)) = false) : kp s l (f + 1) = l.take f := by
  rw [kp_succ s l f h, hp, if_pos rfl, List.append_nil, kp, List.filter_eq_self]
  intro x hx
  obtain ⟨j, hj, rfl⟩ := List.getElem_of_mem hx
  rw [List.length_take] at hj
  rw [List.getElem_take, hb j (by omega)]; rfl
theorem rwK_first (s : ByteArray) (l : List It) (f : Nat) (h : f < l.length) (hp : hdB s l[f] = true) (hb : ∀ j (h : j < f), hdB s (l[j]'(by omega)) = false) : rwK s l (f + 1) = l ∧ (kp s l (f + 1)).length = f := by
  have h1 := kp_first s l f h hp hb
  have h2 : (l.take f).length = f := by rw [List.length_take]; omega
  exact ⟨by rw [rwK, h1, h2, List.take_append_drop], by rw [h1, h2]⟩
theorem kp_all (s : ByteArray) (l : List It) : kp s l l.length = l.filter fun x => !hdB s x := by rw [kp, List.take_length]
theorem set_its (l : List It) (i : Nat) (x : It) : (l.map itV).set i (itV x) = (l.set i x).map itV := by rw [List.map_set]
theorem put_its (l : List It) (p : Nat) (n : Nat) (x : It) (h : p + n = l.length) : putL (l.map itV) p (List.replicate n (itV x)) = (l.take p ++ List.replicate n x).map itV := by
  unfold putL
  rw [List.length_replicate, List.drop_eq_nil_of_le (by rw [List.length_map]; omega), List.append_nil]
  simp [List.map_take]
theorem fI_spec (p : It → Bool) (l : List It) : (fI p l = -1 ∧ ∀ x ∈ l, p x = false) ∨ ∃ (f : Nat) (h : f < l.length), fI p l = f ∧ p l[f] = true ∧ ∀ j (h : j < f), p (l[j]'(by omega)) = false := by
  by_cases h : l.findIdx p < l.length
  · refine .inr ⟨l.findIdx p, h, by rw [fI, if_pos h], List.findIdx_getElem (w := h), fun j hj => ?_⟩
    have := List.not_of_lt_findIdx hj
    simpa using this
  · refine .inl ⟨by rw [fI, if_neg h], fun x hx => ?_⟩
    have := List.findIdx_lt_length (p := p) (xs := l)
    by_cases hp : p x = true
    · exact absurd (this.2 ⟨x, hx, hp⟩) h
    · simpa using hp
theorem delF_own (s : ByteArray) (l : List It) (hl : l.length ≤ 1000000) :
    ∃ t, FnR Try.prog G 28 [.sl 0 3 0 l.length, .fn (.func 29) [.ptr 1 0 0 1]] [(0, rw3 l), (1, .obj 9 (.str s))] (.sl 0 3 0 (l.filter fun x => !hdB s x).length) [(0, rw3 ((l.filter fun x => !hdB s x) ++ t)), (1, .obj 9 (.str s))] := by
  have hml : (l.map itV).length = l.length := List.length_map ..
  have hlt : List.take l.length (List.drop 0 (l.map itV)) = l.map itV := by rw [List.drop_zero]; exact List.take_of_length_le (by simp)
  have ci := idx_hd l s hl
  rcases fI_spec (hdB s) l with ⟨hf, hn⟩ | ⟨f, hfl, hf, hp, hb⟩
  · refine ⟨[], ?_⟩
    rw [hf] at ci
    have hfe : (l.filter fun x => !hdB s x) = l := by
      rw [List.filter_eq_self]; intro x hx; rw [hn x hx]; rfl
    rw [List.append_nil, hfe]
    unfold rw3
    refine FnR.of_walk (m := 42) (n0 := 1000) tt_ok Try.func28 rfl rfl (by simp) (by simp [nmH]) ?_
    rw [show Try.f28.results.toList = [.tmp 4] from rfl]
    refine W.seqK fun K hK => W.regionK tt_ok ?_
    simp only [exOps_nil, exOps_cons, exOp_eq, nx_eq, cur_eq, stepQ, ev, ofV, parT, putT, erA, inB, opt, ret, onQ, ap, true_and, Nat.reduceEqDiff, Nat.reduceLT, Nat.reduceAdd, Nat.zero_add, if_false, reduceCtorEq]
    refine hK _ ?_
    clear hK K
    refine W.seqK fun K hK => W.regionK tt_ok ?_
    simp only [exOps_cons, exOp_eq, exCall_eq, nx_eq, cur_eq, evL, stepQ, ev, lk, putT, erA, inB, opt, ret, onQ, ap, true_and, Nat.reduceEqDiff, Nat.reduceLT, Nat.reduceAdd, if_true, if_false, reduceCtorEq, Option.bind_some, Option.map_some]
    refine CallK.with [(1, .obj 9 (.str s))] [(1, .obj 9 (.str s))] _ _ ci call27 (by simp only [Bool.or_false, AV.nmIn, AV.nmInL, lk, opt, bnd, req, ret, onQ, AV.isTup, isTupL, Ent.row, and_true, true_and, and_self, Nat.zero_add, if_true, if_false, reduceCtorEq, forall_const, List.append_nil, viewEL_its, vw.vwL, vw, viewL, AV.free, Ent.row, Bool.or_self]; all_goals (and_intros <;> first | exact AV.subL_refl _ | omega | (simp [AV.sub, entsFree]; done) | rfl | (simp [AV.subL_refl]; done))) (by simp [leL, lk]) (by intro n hn; first | (left; revert hn; simp [Nm, lk]; done) | (right; revert hn; simp only [Nm, lk]; split <;> simp <;> omega) | (by_cases h1 : Nm [(1, .obj 9 (.str s))] n; exact .inl h1; right; revert hn h1; simp only [Nm, lk]; split <;> (try split) <;> (try split) <;> (try split) <;> (try simp) <;> (try omega))) (by simp [entsIn, Ent.nmIn, AV.nmIn]) ?_
    simp only [callDel, exOps_nil, exOps_cons, exOp_eq, nx_eq, cur_eq, stepQ, ev, lk, putT, erA, inB, opt, ret, onQ, ap, up, er, true_and, Nat.reduceEqDiff, Nat.reduceLT, Nat.reduceAdd, if_true, if_false, reduceCtorEq, List.nil_append, List.cons_append, List.map_cons, List.map_nil, List.reverse_cons, List.reverse_nil]
    refine hK _ ?_
    clear hK K
    refine W.seqK fun Kx hKx => ?_
    refine W.seqK fun K hK => W.regionK tt_ok ?_
    simp only [exOps_nil, exOps_cons, exOp_eq, nx_eq, cur_eq, stepQ, ev, ofV, lk, putT, erA, inB, opt, bnd, req, ret, onQ, ap, binG, binF, intF, true_and, and_self, Nat.reduceEqDiff, Nat.reduceLT, Nat.reduceAdd, if_true, if_false, reduceCtorEq, beq_self_eq_true]
    refine hK _ ?_
    clear hK K
    refine W.cond (b := true) (by simp only [ev, lk, Nat.reduceEqDiff, if_true, if_false, reduceCtorEq]) (fun _ => ?_) (fun h => absurd h (by simp))
    refine W.seqK fun K hK => W.regionK tt_ok ?_
    simp only [exOps_nil, exOps_cons, exOp_eq, nx_eq, cur_eq, stepQ, ev, lk, putT, erA, inB, opt, ret, onQ, ap, true_and, Nat.reduceEqDiff, Nat.reduceLT, Nat.reduceAdd, if_true, if_false, reduceCtorEq]
    refine hK _ ?_
    clear hK K
    refine W.ret ?_
    simp only [fin_ret, finB, resQ, resV, leL, AV.nmIn, entsIn, lk, opt, bnd, req, ret, onQ, AV.isTup, thn_ret, and_true, true_and, and_self, Nat.reduceEqDiff, if_true, if_false, reduceCtorEq]
    simp [Nm, lk, Ent.nmIn, Row.nmIn, AV.nmIn, nm_its]
  · refine ⟨List.replicate (l.length - (l.filter fun x => !hdB s x).length) zIt, ?_⟩
    rw [hf] at ci
    obtain ⟨r1, r2⟩ := rwK_first s l f hfl hp hb
    have hfm : ((f : Int) == -1) = false := by rw [beq_eq_false_iff_ne]; omega
    unfold rw3
    refine FnR.of_walk (m := 42) (n0 := 1000) tt_ok Try.func28 rfl rfl (by simp) (by simp [nmH]) ?_
    rw [show Try.f28.results.toList = [.tmp 4] from rfl]
    refine W.seqK fun K hK => W.regionK tt_ok ?_
    simp only [exOps_nil, exOps_cons, exOp_eq, nx_eq, cur_eq, stepQ, ev, ofV, parT, putT, erA, inB, opt, ret, onQ, ap, true_and, Nat.reduceEqDiff, Nat.reduceLT, Nat.reduceAdd, Nat.zero_add, if_false, reduceCtorEq]
    refine hK _ ?_
    clear hK K
    refine W.seqK fun K hK => W.regionK tt_ok ?_
    simp only [exOps_cons, exOp_eq, exCall_eq, nx_eq, cur_eq, evL, stepQ, ev, lk, putT, erA, inB, opt, ret, onQ, ap, true_and, Nat.reduceEqDiff, Nat.reduceLT, Nat.reduceAdd, if_true, if_false, reduceCtorEq, Option.bind_some, Option.map_some]
    refine CallK.with [(1, .obj 9 (.str s))] [(1, .obj 9 (.str s))] _ _ ci call27 (by simp only [Bool.or_false, AV.nmIn, AV.nmInL, lk, opt, bnd, req, ret, onQ, AV.isTup, isTupL, Ent.row, and_true, true_and, and_self, Nat.zero_add, if_true, if_false, reduceCtorEq, forall_const, List.append_nil, viewEL_its, vw.vwL, vw, viewL, AV.free, Ent.row, Bool.or_self]; all_goals (and_intros <;> first | exact AV.subL_refl _ | omega | (simp [AV.sub, entsFree]; done) | rfl | (simp [AV.subL_refl]; done))) (by simp [leL, lk]) (by intro n hn; first | (left; revert hn; simp [Nm, lk]; done) | (right; revert hn; simp only [Nm, lk]; split <;> simp <;> omega) | (by_cases h1 : Nm [(1, .obj 9 (.str s))] n; exact .inl h1; right; revert hn h1; simp only [Nm, lk]; split <;> (try split) <;> (try split) <;> (try split) <;> (try simp) <;> (try omega))) (by simp [entsIn, Ent.nmIn, AV.nmIn]) ?_
    simp only [callDel, exOps_nil, exOps_cons, exOp_eq, nx_eq, cur_eq, stepQ, ev, lk, putT, erA, inB, opt, ret, onQ, ap, up, er, true_and, Nat.reduceEqDiff, Nat.reduceLT, Nat.reduceAdd, if_true, if_false, reduceCtorEq, List.nil_append, List.cons_append, List.map_cons, List.map_nil, List.reverse_cons, List.reverse_nil]
    refine hK _ ?_
    clear hK K
    refine W.seqK fun Kx hKx => ?_
    refine W.seqK fun K hK => W.regionK tt_ok ?_
    simp only [exOps_nil, exOps_cons, exOp_eq, nx_eq, cur_eq, stepQ, ev, ofV, lk, putT, erA, inB, opt, bnd, req, ret, onQ, ap, binG, binF, intF, true_and, and_self, Nat.reduceEqDiff, Nat.reduceLT, Nat.reduceAdd, if_true, if_false, reduceCtorEq, hfm]
    refine hK _ ?_
    clear hK K
    refine W.cond (b := false) (by simp only [ev, lk, Nat.reduceEqDiff, if_true, if_false, reduceCtorEq]) (fun h => absurd h (by simp)) (fun _ => W.skip ?_)
    simp only [thn_normal]
    refine hKx _ ?_
    refine W.seqK fun Kw hKw => ?_
    refine W.seqK fun K hK => W.regionK tt_ok ?_
    simp only [exOps_nil, exOps_cons, exOp_eq, nx_eq, cur_eq, stepQ, ev, ofV, lk, putT, erA, inB, opt, bnd, req, ret, onQ, ap, binG, binF, intF, true_and, and_self, Nat.reduceEqDiff, Nat.reduceLT, Nat.reduceAdd, if_true, if_false, reduceCtorEq, wrap_up f (by omega)]
    refine hK _ ?_
    clear hK K
    refine W.blockK ?_
    refine W.loopK (fun j : Nat => f < j ∧ j ≤ l.length) (fun j => ⟨[(0, .sl 0 3 0 l.length), (1, .fn (.func 29) [.ptr 1 0 0 1]), (5, .int .i64 ((kp s l j).length : Nat)), (6, .int .i64 (j : Int))], [(0, .vec 33 (.avs 3 ((rwK s l j).map itV))), (1, .obj 9 (.str s))], 2000, 42⟩) (fun j => l.length - j) (f + 1) (by omega) (by simp [r1, r2, wk, leL, lk, nmT, nmE, nmH, AV.nmIn, AV.nmInL, Ent.nmIn, Row.nmIn, nm_its]) ?_
    rintro j ⟨hj1, hj2⟩ K3 hK3
    have hkl := kp_le s l j
    have hrl := rwK_len s l j
    have hrm : ((rwK s l j).map itV).length = l.length := by rw [List.length_map, hrl]
    by_cases hlt2 : j < l.length
    · have c1 : (j : Int) < (l.length : Nat) := by omega
      have he := it_get (rwK s l j) j (by omega)
      rw [rwK_get s l j hlt2] at he
      have cp := hd_fn s l[j]
      have hkeep := rwK_keep s l j hlt2
      have hdrop := rwK_drop s l j hlt2
      have hks := kp_succ s l j hlt2
      have hset := set_its (rwK s l j) (kp s l j).length l[j]
      generalize hB : hdB s l[j] = b at *
      rw [itV] at cp hset
      generalize hy : l[j] = y at *
      refine W.seqK fun K0 hK0 => ?_
      refine W.seqK fun K hK => W.regionK tt_ok ?_
      simp only [decide_true, exOps_nil, exOps_cons, exOp_eq, exCall_eq, nx_eq, cur_eq, evL, stepQ, ev, lk, putT, erA, inB, opt, bnd, req, ret, onQ, ap, binG, binF, intF, bltQ, bltV, lenF, true_and, and_self, or_false, Nat.reduceEqDiff, Nat.reduceLT, Nat.reduceAdd, if_true, if_false, reduceCtorEq, List.getElem?_cons_zero, Option.bind_some, Option.map_some, tt_28, c1]
      refine hK _ ?_
      clear hK K
      refine W.cond (b := true) (by simp only [ev, lk, Nat.reduceEqDiff, if_true, if_false, reduceCtorEq]) (fun _ => W.skip ?_) (fun h => absurd h (by simp))
      rw [thn_normal]
      refine hK0 _ ?_
      clear hK0 K0
      refine W.seqK fun K hK => W.blockK ?_
      refine W.seqK fun K hK => W.regionK tt_ok ?_
      simp only [exOps_nil, exOps_cons, exOp_eq, nx_eq, cur_eq, stepQ, ev, lk, putT, erA, inB, opt, bnd, req, ret, onQ, ap, up, er, AV.isTup, AV.isAgg, Kd.elem, ixA, asI, ldP, ldE, ldC, ldS, Kd.agg, comps, szL, csize, takeI, takeC, dropC, stP, stE, stC, stS, and_true, true_and, and_self, Nat.reduceEqDiff, Nat.reduceLT, Nat.reduceLeDiff, Nat.reduceAdd, Nat.reduceSub, Nat.sub_self, Int.toNat_natCast, Nat.le_refl, Nat.add_zero, Nat.zero_add, if_true, if_false, reduceCtorEq, Option.bind_some, Option.map_some, List.append_nil, List.nil_append, tt_28, tt_33, he, hrm, Int.toNat_natCast]
      repeat (refine ⟨by omega, ?_⟩)
      refine hK _ ?_
      clear hK K
      refine W.seqK fun K hK => W.regionK tt_ok ?_
      simp only [exOps_cons, exOp_eq, exCall_eq, nx_eq, cur_eq, evL, stepQ, ev, lk, putT, erA, inB, opt, bnd, req, ret, onQ, ap, ldP, ldE, ldC, ldS, Kd.agg, comps, csize, takeI, takeC, dropC, true_and, and_self, Nat.reduceEqDiff, Nat.reduceLT, Nat.reduceLeDiff, Nat.reduceAdd, Nat.reduceSub, Nat.sub_self, Nat.le_refl, if_true, if_false, reduceCtorEq, Option.bind_some, Option.map_some, tt_33]
      refine CallK.with [(1, .obj 9 (.str s))] [(1, .obj 9 (.str s))] _ _ cp call29 (by simp only [AV.nmIn, bnd, req, ret, onQ, AV.isTup, isTupL, and_true, true_and, and_self, Bool.false_eq_true, List.nil_append, List.cons_append, vw.vwL, vw, AV.free, Bool.or_self]; all_goals (and_intros <;> first | exact AV.subL_refl _ | omega | (simp [AV.sub, entsFree]; done) | rfl | (simp [AV.subL_refl]; done))) (by simp [leL, lk]) (by intro n hn; first | (left; revert hn; simp [Nm, lk]; done) | (right; revert hn; simp only [Nm, lk]; split <;> simp <;> omega) | (by_cases h1 : Nm [(1, .obj 9 (.str s))] n; exact .inl h1; right; revert hn h1; simp only [Nm, lk]; split <;> (try split) <;> (try split) <;> (try split) <;> (try simp) <;> (try omega))) (by simp [entsIn, Ent.nmIn, AV.nmIn]) ?_
      simp only [callDel, exOps_nil, exOps_cons, exOp_eq, nx_eq, cur_eq, stepQ, ev, lk, putT, erA, inB, opt, bnd, req, ret, onQ, ap, up, er, unF, true_and, and_self, Nat.reduceEqDiff, Nat.reduceLT, Nat.reduceAdd, if_true, if_false, reduceCtorEq, List.nil_append, List.cons_append, List.map_cons, List.map_nil, List.reverse_cons, List.reverse_nil]
      refine hK _ ?_
      clear hK K
      cases b with
      | true =>
        obtain ⟨d1, d2⟩ := hdrop rfl
        refine W.cond (b := false) (by simp only [Bool.not_true, ev, lk, Nat.reduceEqDiff, if_true, if_false, reduceCtorEq]) (fun h => absurd h (by simp)) (fun _ => W.skip ?_)
        simp only [Bool.not_true, thn_normal, inb_normal]
        refine hK _ ?_
        refine W.region tt_ok ?_
        simp only [exOps_nil, exOps_cons, exOp_eq, nx_eq, cur_eq, stepQ, ev, ofV, lk, putT, erA, inB, opt, bnd, req, ret, onQ, ap, binG, binF, intF, thn_normal, true_and, and_self, Nat.reduceEqDiff, Nat.reduceLT, Nat.reduceAdd, if_true, if_false, reduceCtorEq, wrap_up j (by omega)]
        refine hK3 _ (j + 1) (by omega) (by omega) ?_
        simp [d1, d2, wk, leL, lk, nmT, nmE, nmH, AV.nmIn, AV.nmInL, Ent.nmIn, Row.nmIn, nm_its]
      | false =>
        simp only [Bool.false_eq_true, if_false] at hks
        have hk1 : (kp s l (j + 1)).length = (kp s l j).length + 1 := by rw [hks]; simp
        have hw := wrap_up (kp s l j).length (by omega)
        rw [hkeep rfl] at hset
        refine W.cond (b := true) (by simp only [Bool.not_false, ev, lk, Nat.reduceEqDiff, if_true, if_false, reduceCtorEq]) (fun _ => ?_) (fun h => absurd h (by simp))
        refine W.seqK fun K hK => W.regionK tt_ok ?_
        simp only [Bool.not_false, exOps_nil, exOps_cons, exOp_eq, nx_eq, cur_eq, stepQ, ev, lk, putT, erA, inB, opt, bnd, req, ret, onQ, ap, up, er, AV.isAgg, Kd.elem, ixA, asI, ldP, ldE, ldC, ldS, Kd.agg, comps, szL, csize, takeI, takeC, dropC, stP, stE, and_true, true_and, and_self, Nat.reduceEqDiff, Nat.reduceLT, Nat.reduceLeDiff, Nat.reduceAdd, Nat.reduceSub, Nat.sub_self, Int.toNat_natCast, Nat.le_refl, Nat.add_zero, Nat.zero_add, if_true, if_false, reduceCtorEq, Option.bind_some, Option.map_some, tt_28, tt_33, Int.toNat_natCast, hrm, hset]
        repeat (refine ⟨by omega, ?_⟩)
        refine hK _ ?_
        clear hK K
        refine W.region tt_ok ?_
        simp only [exOps_nil, exOps_cons, exOp_eq, nx_eq, cur_eq, stepQ, ev, ofV, lk, putT, erA, inB, opt, bnd, req, ret, onQ, ap, binG, binF, intF, thn_normal, inb_normal, true_and, and_self, Nat.reduceEqDiff, Nat.reduceLT, Nat.reduceAdd, if_true, if_false, reduceCtorEq, hw]
        refine hK _ ?_
        refine W.region tt_ok ?_
        simp only [exOps_nil, exOps_cons, exOp_eq, nx_eq, cur_eq, stepQ, ev, ofV, lk, putT, erA, inB, opt, bnd, req, ret, onQ, ap, binG, binF, intF, thn_normal, true_and, and_self, Nat.reduceEqDiff, Nat.reduceLT, Nat.reduceAdd, if_true, if_false, reduceCtorEq, wrap_up j (by omega)]
        refine hK3 _ (j + 1) (by omega) (by omega) ?_
        simp [hk1, wk, leL, lk, nmT, nmE, nmH, AV.nmIn, AV.nmInL, Ent.nmIn, Row.nmIn, nm_its]
    have hj : j = l.length := by omega
    subst hj
    have c1 : ¬ ((l.length : Nat) : Int) < (l.length : Nat) := by omega
    have hput := put_its (rwK s l l.length) (kp s l l.length).length (l.length - (kp s l l.length).length) zIt (by omega)
    have hka := kp_all s l
    have hT : (rwK s l l.length).take (kp s l l.length).length = l.filter fun x => !hdB s x := by rw [rwK, List.take_left' rfl, hka]
    rw [hT] at hput
    have hFl : (l.filter fun x => !hdB s x).length ≤ l.length := List.length_filter_le _ _
    rw [hka] at hput
    have hput : putL ((rwK s l l.length).map itV) (l.filter fun x => !hdB s x).length (List.replicate (l.length - (l.filter fun x => !hdB s x).length) (.agg [.str ByteArray.empty, .int .i64 0, .str ByteArray.empty])) = _ := hput
    rw [hka]
    refine W.seqK fun K0 hK0 => ?_
    refine W.seqK fun K hK => W.regionK tt_ok ?_
    simp only [decide_false, exOps_nil, exOps_cons, exOp_eq, exCall_eq, nx_eq, cur_eq, evL, stepQ, ev, lk, putT, erA, inB, opt, bnd, req, ret, onQ, ap, binG, binF, intF, bltQ, bltV, lenF, true_and, and_self, or_false, Nat.reduceEqDiff, Nat.reduceLT, Nat.reduceAdd, if_true, if_false, reduceCtorEq, List.getElem?_cons_zero, Option.bind_some, Option.map_some, tt_28, c1]
    refine hK _ ?_
    clear hK K
    refine W.cond (b := false) (by simp only [ev, lk, Nat.reduceEqDiff, if_true, if_false, reduceCtorEq]) (fun h => absurd h (by simp)) (fun _ => W.exit ?_)
    simp only [thn_normal, thn_exit, inb_exit, if_true]
    clear hK0 K0
    refine hKw _ ?_
    refine W.seqK fun K hK => W.regionK tt_ok ?_
    simp only [exOps_nil, exOps_cons, exOp_eq, exCall_eq, nx_eq, cur_eq, evL, stepQ, ev, lk, putT, erA, inB, opt, bnd, req, ret, onQ, ap, up, er, bltQ, bltV, slF, clrQ, bd, bds, and_true, true_and, or_false, Nat.reduceEqDiff, Nat.reduceLT, Nat.reduceAdd, Int.toNat_natCast, Nat.zero_add, if_true, if_false, reduceCtorEq, List.getElem?_cons_zero, Option.bind_some, Option.map_some, tt_28, tt_33, Int.toNat_natCast, hrm]
    rw [hput]
    refine ⟨⟨by omega, by omega⟩, by omega, ?_⟩
    refine hK _ ?_
    clear hK K
    refine W.seqK fun K hK => W.regionK tt_ok ?_
    simp only [exOps_nil, exOps_cons, exOp_eq, nx_eq, cur_eq, stepQ, ev, lk, putT, erA, inB, opt, bnd, req, ret, onQ, ap, slF, bd, bds, and_true, true_and, Nat.reduceEqDiff, Nat.reduceLT, Nat.reduceAdd, Int.toNat_natCast, Nat.add_zero, if_true, if_false, reduceCtorEq, tt_28, tt_33, Int.toNat_natCast]
    repeat (refine ⟨by omega, ?_⟩)
    refine hK _ ?_
    clear hK K
    refine W.ret ?_
    simp only [fin_ret, finB, resQ, resV, leL, AV.nmIn, entsIn, lk, opt, bnd, req, ret, onQ, AV.isTup, and_true, true_and, and_self, Nat.reduceEqDiff, if_true, if_false, reduceCtorEq]
    simp [Nm, lk, Ent.nmIn, Row.nmIn, AV.nmIn, nm_its, -List.map_append, -List.map_replicate]
theorem call28 : Callable Try.prog 28 := ⟨_, Try.func28, by kernel_rfl, by kernel_rfl⟩
/-- Those that are left without a header's. -/
def noH (s : ByteArray) (l : List It) : List It := l.filter fun x => !hdB s x
theorem delF_tr (s : ByteArray) (l : List It) (hl : l.length ≤ 1000000) :
    FnR Try.prog G 28 [.sl 0 3 0 l.length, .fn (.func 29) [.ptr 1 0 0 1]] [(0, rw3 l), (1, .obj 9 (.str s))] (.sl 0 3 0 (noH s l).length) [(0, rw3 (noH s l)), (1, .obj 9 (.str s))] := by
  obtain ⟨t, h⟩ := delF_own s l hl
  exact h.pre ⟨rfl, ⟨rfl, rfl, t.map itV, by simp [noH]⟩, rfl, rfl, trivial⟩
theorem delF_at (X Y : Nat) (h : X ≠ Y) (s : ByteArray) (l : List It) (hl : l.length ≤ 1000000) :
    FnR Try.prog G 28 [.sl X 3 0 l.length, .fn (.func 29) [.ptr Y 0 0 1]] [(X, rw3 l), (Y, .obj 9 (.str s))] (.sl X 3 0 (noH s l).length) [(X, rw3 (noH s l)), (Y, .obj 9 (.str s))] := by
  obtain ⟨e1, e2⟩ := two_names (m := 1) h (by omega)
  have h := ((delF_tr s l hl).swap 0 X).swap (swp 0 X 1) Y
  simpa only [List.map_cons, List.map_nil, AV.map, AV.mapL, enMap, rw3, Ent.map, Row.map, ml_its, e1, e2] using h
/-- Drop. -/
theorem drop_own0 (s : ByteArray) (l : List It) (hl : l.length ≤ 1000000) :
    FnR Try.prog G 15 [.sl 0 3 0 l.length, .str s] [(0, rw3 l)] (.tup [.sl 1064 3 0 (noH s l).length, .int .i64 (l.length - (noH s l).length : Nat)]) [(1064, rw3 (noH s l)), (0, rw3 l)] := by
  have hnl : (noH s l).length ≤ l.length := List.length_filter_le _ _
  have cc := clone_own 0 1064 (by omega) l hl
  have cd := delF_at 1064 1000 (by omega) s l hl
  have hw : IntKind.i64.wrap ((l.length : Int) - ((noH s l).length : Int)) = (l.length - (noH s l).length : Nat) := by rw [IntKind.wrap_i64]; omega
  generalize noH s l = l2 at *
  unfold rw3 at *
  refine FnR.of_walk (m := 17) (n0 := 1000) tt_ok Try.func15 rfl rfl (by simp) (by simp [nmH]) ?_
  rw [show Try.f15.results.toList = [.tmp 4, .tmp 5] from rfl]
  refine W.seqK fun K hK => W.regionK tt_ok ?_
  simp only [exOps_nil, exOps_cons, exOp_eq, nx_eq, cur_eq, stepQ, ev, ofV, lk, parT, putT, erA, inB, opt, req, ret, onQ, ap, up, er, AV.isTup, true_and, and_self, Nat.reduceEqDiff, Nat.reduceLT, Nat.reduceAdd, Nat.zero_add, if_true, if_false, reduceCtorEq]
  refine hK _ ?_
  clear hK K
  refine W.seqK fun K hK => W.regionK tt_ok ?_
  simp only [exOps_cons, exOp_eq, exCall_eq, nx_eq, cur_eq, evL, stepQ, ev, lk, putT, erA, inB, opt, ret, onQ, ap, true_and, Nat.reduceEqDiff, Nat.reduceLT, Nat.reduceAdd, if_true, if_false, reduceCtorEq, Option.bind_some, Option.map_some]
  refine CallK.with [(0, .vec 33 (.avs 3 (l.map itV)))] [(1064, .vec 33 (.avs 3 (l.map itV))), (0, .vec 33 (.avs 3 (l.map itV)))] _ _ cc call22 (by simp only [lk, bnd, req, ret, onQ, AV.isTup, isTupL, true_and, and_self, if_true, Bool.false_eq_true, List.append_nil, vw.vwL, vw, AV.free, Bool.or_self]; all_goals (and_intros <;> first | exact AV.subL_refl _ | omega | (simp [AV.sub, entsFree]; done) | rfl | (simp [AV.subL_refl]; done))) (by simp [leL, lk]) (by intro n hn; first | (left; revert hn; simp [Nm, lk]; done) | (right; revert hn; simp only [Nm, lk]; split <;> simp <;> omega) | (by_cases h1 : Nm [(0, .vec 33 (.avs 3 (l.map itV)))] n; exact .inl h1; right; revert hn h1; simp only [Nm, lk]; split <;> (try split) <;> (try split) <;> (try split) <;> (try simp) <;> (try omega))) (by simp [entsIn, Ent.nmIn, Row.nmIn, nm_its]) ?_
  simp only [callDel, Bool.or_false, exOps_cons, exOp_eq, exCall_eq, nx_eq, cur_eq, evL, stepQ, ev, lk, putT, erA, inB, bnd, req, ret, onQ, ap, up, er, AV.isTup, isTupL, mkfQ, noNilf, true_and, and_self, Nat.reduceEqDiff, Nat.reduceLT, Nat.reduceAdd, if_true, if_false, reduceCtorEq, Option.bind_some, Option.map_some, List.nil_append, List.cons_append, List.map_cons, List.map_nil, List.reverse_cons, List.reverse_nil]
  refine CallK.with [(1064, .vec 33 (.avs 3 (l.map itV))), (1000, .obj 9 (.str s))] [(1064, .vec 33 (.avs 3 (l2.map itV))), (1000, .obj 9 (.str s))] _ _ cd call28 (by simp only [AV.nmIn, AV.nmInL, lk, bnd, req, ret, onQ, AV.isTup, isTupL, and_true, true_and, and_self, Nat.reduceEqDiff, if_true, if_false, Bool.false_eq_true, List.append_nil, vw.vwL, vw, AV.free, Bool.or_self]; all_goals (and_intros <;> first | exact AV.subL_refl _ | omega | (simp [AV.sub, entsFree]; done) | rfl | (simp [AV.subL_refl]; done))) (by simp [leL, lk]) (by intro n hn; first | (left; revert hn; simp [Nm, lk]; done) | (right; revert hn; simp only [Nm, lk]; split <;> simp <;> omega) | (by_cases h1 : Nm [(1064, .vec 33 (.avs 3 (l.map itV))), (1000, .obj 9 (.str s))] n; exact .inl h1; right; revert hn h1; simp only [Nm, lk]; split <;> (try split) <;> (try split) <;> (try split) <;> (try simp) <;> (try omega))) (by simp [entsIn, Ent.nmIn, Row.nmIn, AV.nmIn, nm_its]) ?_
  simp only [callDel, exOps_nil, exOps_cons, exOp_eq, nx_eq, cur_eq, stepQ, ev, lk, putT, erA, inB, opt, ret, onQ, ap, up, er, true_and, Nat.reduceEqDiff, Nat.reduceLT, Nat.reduceAdd, if_true, if_false, reduceCtorEq, List.nil_append, List.cons_append, List.map_cons, List.map_nil, List.reverse_cons, List.reverse_nil]
  refine hK _ ?_
  clear hK K
  refine W.seqK fun K hK => W.regionK tt_ok ?_
  simp only [exOps_nil, exOps_cons, exOp_eq, exCall_eq, nx_eq, cur_eq, evL, stepQ, ev, lk, putT, erA, inB, opt, bnd, req, ret, onQ, ap, binG, binF, intF, bltQ, bltV, lenF, true_and, and_self, or_false, Nat.reduceEqDiff, Nat.reduceLT, Nat.reduceAdd, if_true, if_false, reduceCtorEq, List.getElem?_cons_zero, Option.bind_some, Option.map_some, tt_28, hw]
  refine hK _ ?_
  clear hK K
  refine W.ret ?_
  simp only [fin_ret, finB, resQ, resV, leL, AV.nmIn, AV.nmInL, entsIn, lk, opt, bnd, req, ret, onQ, AV.isTup, and_true, true_and, and_self, Nat.reduceEqDiff, if_true, if_false, reduceCtorEq]
  simp [Nm, lk, Ent.nmIn, Row.nmIn, nm_its]
end Go.Proofs.Ythnkhdenkagceaa
