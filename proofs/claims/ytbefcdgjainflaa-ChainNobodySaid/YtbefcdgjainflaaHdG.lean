/- Chains: Skip, of terms. (printed by genHG.py) -/
import Derived.Test.YtbefcdgjainflaaHdF
-- TT 3 4 5 9 23 25 28 29 30 36 39 50 53 54 55 56 58 82 94
-- SIMP beq_self_eq_true
set_option linter.unusedVariables false
set_option linter.unusedSectionVars false
set_option linter.unusedSimpArgs false
namespace Go.Proofs.Ytbefcdgjainflaa
open Sx
variable [Inhabited Tabs]
set_option maxRecDepth 100000
set_option maxHeartbeats 4000000
/-- The table, and a chain's key, behind i steps. -/
def scT (T : Tms') (k : ByteArray) : Nat → Tms' × ByteArray
  | 0 => (T, k)
  | i + 1 => (syT (scT T k i).1 (scT T k i).2 sNext 2, putN (encL (scT T k i).1) 4 (kyP (scT T k i).2 sNext 0))
/-- The key that is told at a step. -/
def scM (T : Tms') (k : ByteArray) (i : Nat) : ByteArray := putN (encL (syT (scT T k i).1 (scT T k i).2 sNext 1)) 4 (kyP (scT T k i).2 sNext 1)
def scL (T : Tms') (k : ByteArray) (d : Nat) : List ByteArray := (List.range d).map (scM T k)
theorem scL_succ (T : Tms') (k : ByteArray) (d : Nat) : scL T k (d + 1) = scL T k d ++ [scM T k d] := by rw [scL, List.range_succ, List.map_append]; rfl
theorem scL_len (T : Tms') (k : ByteArray) (d : Nat) : (scL T k d).length = d := by simp [scL]
theorem sN4 : sNext.size ≤ 4000 := by decide
theorem sc_ok {T : Tms'} (hok : okTs T) {k : ByteArray} (hk : k.size ≤ 4000) : ∀ i, okTs (scT T k i).1 ∧ (scT T k i).2.size ≤ 4000 ∧ (scT T k i).1.length ≤ T.length + 2 * i
  | 0 => ⟨hok, hk, by simp [scT]⟩
  | i + 1 => by
    obtain ⟨h1, h2, h3⟩ := sc_ok hok hk i
    obtain ⟨j, hj, _⟩ := put_at h1 (kyP_T h2 sN4 0)
    refine ⟨syT_ok h1 h2 sN4 2, ?_, ?_⟩
    · show (putN _ 4 _).size ≤ 4000
      rw [hj, nmS_size]; omega
    · have := syT_len (scT T k i).1 (scT T k i).2 sNext 2
      show (syT _ _ _ 2).length ≤ _
      omega
theorem sc_key {T : Tms'} (hok : okTs T) {k : ByteArray} (hk : k.size ≤ 4000) (i : Nat) : ∃ j : Nat, (scT T k (i + 1)).2 = nmS ((j + 1 : Nat) : Int) := by
  obtain ⟨h1, h2, h3⟩ := sc_ok hok hk i
  obtain ⟨j, hj, _⟩ := put_at h1 (kyP_T h2 sN4 0)
  exact ⟨j, hj⟩
theorem sc_ne {T : Tms'} (hok : okTs T) {k : ByteArray} (hk : k.size ≤ 4000) (hk0 : k ≠ eS) : ∀ i, (scT T k i).2 ≠ eS
  | 0 => hk0
  | i + 1 => by obtain ⟨j, hj⟩ := sc_key hok hk i; rw [hj]; exact nm_ne _
theorem sc_T {T : Tms'} (hok : okTs T) {k : ByteArray} (hk : k.size ≤ 4000) (i : Nat) : (scT T k (i + 1)).1 ≠ [] := by
  obtain ⟨_, h2, _⟩ := sc_ok hok hk i
  exact syT_ne h2 sN4 1
theorem stay_sy : stay (.ifc 55 (.agg [.ptr 0 0 0 1])) := by
  intro a b ha hb
  have h0 : ¬ (0 : Nat) = a := by omega
  have g0 : ¬ (0 : Nat) = b := by omega
  simp [AV.map, AV.mapL, swp, h0, g0]
theorem stay_cV (k : ByteArray) (n : Int) : stay (cV k n) := fun _ _ _ _ => rfl
/-- Next, the table's row of names told as X before (or 3) and Y behind. -/
theorem synextXY {T : Tms'} (hT : T ≠ []) (hok : okTs T) (hl : T.length < 800) (k : ByteArray) (n : Int) (h1 : 0 ≤ n) (h2 : n < 1000) (hk0 : k ≠ eS) (hk : k.size ≤ 4000) (X Y : Nat) (hX : 2 < X) (hY : 2 < Y) (hXY : X ≠ Y) (hX9 : X ≠ 992) :
    FnR Try.prog G 12 [.ifc 55 (.agg [.ptr 0 0 0 1]), cV k n] (tbX X (encL T)) (.tup [cV (putN (encL T) 4 (kyP k sNext 0)) (n + 1), .str (putN (encL (syT T k sNext 1)) 4 (kyP k sNext 1)), .int .i64 0]) (tbX Y (encL (syT T k sNext 2))) := by
  have h := synext_ok hok hl k n h1 h2 hk0 hk
  rw [tabS_ne 3 hT] at h
  refine renT X Y hX hY hXY hX9 ?_ (fun _ _ _ _ => rfl) (mv1 369 992 (by omega) (by omega) (by omega) rfl h)
  intro x hx
  simp only [List.mem_cons, List.not_mem_nil, or_false] at hx
  rcases hx with rfl | rfl
  · exact stay_sy
  · exact stay_cV _ _
theorem synext0 {T : Tms'} (hok : okTs T) (hl : T.length < 800) (k : ByteArray) (n : Int) (h1 : 0 ≤ n) (h2 : n < 1000) (hk0 : k ≠ eS) (hk : k.size ≤ 4000) (Y : Nat) (hY : 3 < Y) (hY2 : 369 ≠ Y) :
    FnR Try.prog G 12 [.ifc 55 (.agg [.ptr 0 0 0 1]), cV k n] (tabS 3 T) (.tup [cV (putN (encL T) 4 (kyP k sNext 0)) (n + 1), .str (putN (encL (syT T k sNext 1)) 4 (kyP k sNext 1)), .int .i64 0]) (tbX Y (encL (syT T k sNext 2))) := by
  have h := synext_ok hok hl k n h1 h2 hk0 hk
  by_cases hT : T = []
  · subst hT
    rw [tabS_nil] at h ⊢
    exact mv0 369 Y (by omega) hY hY2 rfl h
  · rw [tabS_ne 3 hT] at h ⊢
    exact mv1 369 Y (by omega) hY hY2 rfl h
def ssI (T : Tms') (k : ByteArray) (n : Int) (d : Nat) : Nat → St
  | 0 => ⟨[(0, .ifc 55 (.agg [.ptr 0 0 0 1])), (6, .ptr 32 0 0 1), (9, .ptr 496 0 0 1), (10, .nils), (48, .int .i64 (d : Nat)), (49, .int .i64 0)], (32, .obj 23 (.agg [.str ByteArray.empty, .int .i64 0])) :: (496, .obj 23 (.agg [.str k, .int .i64 n])) :: tabS 3 T, 528, 70⟩
  | i + 1 => ⟨[(0, .ifc 55 (.agg [.ptr 0 0 0 1])), (6, .ptr 32 0 0 1), (9, .ptr 496 0 0 1), (10, .sl 4 1 0 (i + 1)), (48, .int .i64 (d : Nat)), (49, .int .i64 ((i + 1 : Nat) : Int))], (32, .obj 23 (.agg [.str ByteArray.empty, .int .i64 0])) :: (496, .obj 23 (.agg [.str (scT T k (i + 1)).2, .int .i64 (n + ((i + 1 : Nat) : Int))])) :: (4, .vec 9 (.strs (scL T k (i + 1)))) :: tbX 5 (encL (scT T k (i + 1)).1), 528, 70⟩
theorem syskip_ok {T : Tms'} (hok : okTs T) (hl : T.length < 700) (k : ByteArray) (n t : Int) (d : Nat) (ht : t = n + d) (h1 : 0 ≤ n) (h2 : t ≤ 1000) (hd0 : 1 ≤ d) (hd : d ≤ 20) (hk0 : k ≠ eS) (hk : k.size ≤ 4000) :
    FnR Try.prog G 11 [.ifc 55 (.agg [.ptr 0 0 0 1]), cV k n, .int .i64 t] (tabS 3 T) (.tup [cV (scT T k d).2 t, .sl 4 1 0 d, .int .i64 0]) ((4, .vec 9 (.strs (scL T k d))) :: tbX 5 (encL (scT T k d).1)) := by
  have n1 : ¬ n < 0 := by omega
  have n2 : ¬ t < 0 := by omega
  have n3 : ¬ t < n := by omega
  have n4 : ¬ (1000 : Int) < t := by omega
  have hsb : IntKind.i64.wrap (t - n) = (d : Nat) := by rw [IntKind.wrap_i64]; omega
  have n5 : ¬ (20 : Int) < ((d : Nat) : Int) := by omega
  by_cases hT : T = []
  · subst hT
    rw [tabS_nil, cV]
    simp only [tabE]
    refine FnR.of_walk (m := 70) (n0 := 16) tt_ok Try.func11 rfl rfl (by simp) (by simp [nmH]) ?_
    rw [show Try.f11.results.toList = [.cell 6 23, .tmp 7, .tmp 8] from rfl]
    refine W.seqK fun K hK => W.regionK tt_ok ?_
    simp only [exOps_nil, exOps_cons, exOp_eq, nx_eq, cur_eq, stepQ, ev, ofV, lk, parT, putT, erA, inB, opt, req, ret, onQ, ap, up, er, AV.isTup, true_and, and_self, Nat.reduceEqDiff, Nat.reduceLT, Nat.reduceAdd, Nat.zero_add, if_true, if_false, reduceCtorEq, tt_23]
    refine hK _ ?_
    clear hK K
    refine W.seqK fun Kb hKb => ?_
    refine W.blockK ?_
    refine W.seqK fun K hK => W.regionK tt_ok ?_
    simp only [exOps_nil, exOps_cons, exOp_eq, nx_eq, cur_eq, stepQ, ev, ofV, lk, putT, erA, inB, opt, bnd, req, ret, onQ, ap, binI, binG, eqOp, true_and, and_self, Nat.reduceEqDiff, Nat.reduceLT, Nat.reduceAdd, if_true, if_false, reduceCtorEq, tt_28]
    refine hK _ ?_
    clear hK K
    refine W.cond (b := false) (by simp only [ev, lk, Nat.reduceEqDiff, if_true, if_false, reduceCtorEq]) (fun h => absurd h (by simp)) (fun _ => ?_)
    refine W.seqK fun K hK => W.regionK tt_ok ?_
    simp only [↓gFF, ↓nFF, decide_false, exOps_nil, exOps_cons, exOp_eq, nx_eq, cur_eq, stepQ, ev, ofV, lk, putT, erA, inB, opt, bnd, req, ret, onQ, ap, binI, binG, binF, intF, pickF, ldP, ldE, ldC, ldS, Kd.agg, comps, csize, takeI, takeC, dropC, fldF, and_true, true_and, and_self, Nat.reduceEqDiff, Nat.reduceLT, Nat.reduceLeDiff, Nat.reduceAdd, Nat.reduceSub, Nat.sub_self, Nat.le_refl, Nat.zero_add, if_true, if_false, Bool.false_eq_true, reduceCtorEq, ne_eq, not_false_eq_true, List.getElem?_cons_zero, List.getElem?_cons_succ, Option.bind_some, Option.map_some, tt_3, tt_23, n1, n2]
    refine hK _ ?_
    clear hK K
    refine W.cond (b := false) (by simp only [ev, lk, Nat.reduceEqDiff, if_true, if_false, reduceCtorEq]) (fun h => absurd h (by simp)) (fun _ => ?_)
    refine W.seqK fun K hK => W.regionK tt_ok ?_
    simp only [decide_false, exOps_nil, exOps_cons, exOp_eq, nx_eq, cur_eq, stepQ, ev, lk, putT, erA, inB, opt, bnd, req, ret, onQ, ap, binI, binG, binF, intF, ldP, ldE, ldC, ldS, Kd.agg, comps, csize, takeI, takeC, dropC, fldF, true_and, and_self, Nat.reduceEqDiff, Nat.reduceLT, Nat.reduceLeDiff, Nat.reduceAdd, Nat.reduceSub, Nat.sub_self, Nat.le_refl, Nat.zero_add, if_true, if_false, Bool.false_eq_true, reduceCtorEq, ne_eq, not_false_eq_true, List.getElem?_cons_zero, List.getElem?_cons_succ, Option.bind_some, Option.map_some, tt_3, tt_23, n3]
    refine hK _ ?_
    clear hK K
    refine W.cond (b := false) (by simp only [ev, lk, Nat.reduceEqDiff, if_true, if_false, reduceCtorEq]) (fun h => absurd h (by simp)) (fun _ => ?_)
    refine W.seqK fun K hK => W.regionK tt_ok ?_
    simp only [decide_false, exOps_nil, exOps_cons, exOp_eq, nx_eq, cur_eq, stepQ, ev, ofV, lk, putT, erA, inB, opt, bnd, req, ret, onQ, ap, binI, binG, binF, intF, true_and, and_self, Nat.reduceEqDiff, Nat.reduceLT, Nat.reduceAdd, if_true, if_false, reduceCtorEq, n4]
    refine hK _ ?_
    clear hK K
    refine W.cond (b := false) (by simp only [ev, lk, Nat.reduceEqDiff, if_true, if_false, reduceCtorEq]) (fun h => absurd h (by simp)) (fun _ => ?_)
    refine W.seqK fun K hK => W.regionK tt_ok ?_
    simp only [decide_false, exOps_nil, exOps_cons, exOp_eq, nx_eq, cur_eq, stepQ, ev, ofV, lk, putT, erA, inB, opt, bnd, req, ret, onQ, ap, binI, binG, binF, intF, ldP, ldE, ldC, ldS, Kd.agg, comps, csize, takeI, takeC, dropC, fldF, true_and, and_self, Nat.reduceEqDiff, Nat.reduceLT, Nat.reduceLeDiff, Nat.reduceAdd, Nat.reduceSub, Nat.sub_self, Nat.le_refl, Nat.zero_add, if_true, if_false, Bool.false_eq_true, reduceCtorEq, ne_eq, not_false_eq_true, List.getElem?_cons_zero, List.getElem?_cons_succ, Option.bind_some, Option.map_some, tt_3, tt_23, n5, hsb]
    refine hK _ ?_
    clear hK K
    refine W.cond (b := false) (by simp only [ev, lk, Nat.reduceEqDiff, if_true, if_false, reduceCtorEq]) (fun h => absurd h (by simp)) (fun _ => ?_)
    refine W.skip ?_
    simp only [thn_normal, inb_normal]
    refine hKb _ ?_
    refine W.seqK fun K hK => W.regionK tt_ok ?_
    simp only [exOps_nil, exOps_cons, exOp_eq, nx_eq, cur_eq, stepQ, ev, lk, putT, erA, inB, opt, bnd, req, ret, onQ, ap, up, er, AV.isTup, AV.isAgg, ldP, ldE, ldC, ldS, Kd.agg, comps, szL, csize, takeI, takeC, dropC, stP, stE, stC, stS, and_true, true_and, and_self, Nat.reduceEqDiff, Nat.reduceLT, Nat.reduceLeDiff, Nat.reduceAdd, Nat.reduceSub, Nat.sub_self, Nat.le_refl, Nat.add_zero, Nat.zero_add, if_true, if_false, reduceCtorEq, Option.bind_some, Option.map_some, List.append_nil, List.nil_append, tt_23]
    refine hK _ ?_
    clear hK K
    refine W.seqK fun K hK => W.regionK tt_ok ?_
    simp only [exOps_nil, exOps_cons, exOp_eq, nx_eq, cur_eq, stepQ, ev, ofV, putT, erA, inB, opt, ret, onQ, ap, true_and, Nat.reduceEqDiff, Nat.reduceLT, Nat.reduceAdd, if_false, reduceCtorEq]
    refine hK _ ?_
    clear hK K
    refine W.seqK fun Ky hKy => ?_
    refine W.seqK fun K hK => W.regionK tt_ok ?_
    simp only [exOps_nil, exOps_cons, exOp_eq, nx_eq, cur_eq, stepQ, ev, ofV, lk, putT, erA, inB, opt, bnd, req, ret, onQ, ap, binI, binG, binF, intF, ldP, ldE, ldC, ldS, Kd.agg, comps, csize, takeI, takeC, dropC, fldF, true_and, and_self, Nat.reduceEqDiff, Nat.reduceLT, Nat.reduceLeDiff, Nat.reduceAdd, Nat.reduceSub, Nat.sub_self, Nat.le_refl, Nat.zero_add, if_true, if_false, Bool.false_eq_true, reduceCtorEq, ne_eq, not_false_eq_true, List.getElem?_cons_zero, List.getElem?_cons_succ, Option.bind_some, Option.map_some, tt_3, tt_23, hsb]
    refine hK _ ?_
    clear hK K
    refine W.blockK ?_
    refine W.loopS (fun i : Nat => i ≤ d) (ssI [] k n d) (fun i => d - i) 0 (by simp) (by simp [ssI, tabS_nil, tabE, wk, leL, lk, nmT, nmE, nmH, AV.nmIn, AV.nmInL, Ent.nmIn]) ?_
    intro i hi K3 hK3
    by_cases hlt : i < d
    · cases i with
      | zero =>
        have l0 : (0 : Int) < (d : Nat) := by omega
        have c12 := synext0 (T := []) hok (by first | omega | simp) k n h1 (by omega) hk0 hk 576 (by omega) (by omega)
        rw [show putN (encL []) 4 (kyP k sNext 0) = (scT [] k (0 + 1)).2 from rfl, show putN (encL (syT [] k sNext 1)) 4 (kyP k sNext 1) = scM [] k 0 from rfl, show syT [] k sNext 2 = (scT [] k (0 + 1)).1 from rfl] at c12
        have hl1 : scL [] k (0 + 1) = [scM [] k 0] := rfl
        generalize hke : (scT [] k (0 + 1)).2 = k1 at *
        generalize scM [] k 0 = m0 at *
        simp only [cV, tabS_nil, tabE, tbX] at c12
        simp only [ssI, tabS_nil, tabE, tbX]
        refine W.seqK fun K hK => W.regionK tt_ok ?_
        simp only [decide_true, exOps_nil, exOps_cons, exOp_eq, nx_eq, cur_eq, stepQ, ev, lk, putT, erA, inB, opt, bnd, req, ret, onQ, ap, binI, binG, binF, intF, true_and, and_self, Nat.reduceEqDiff, Nat.reduceLT, Nat.reduceAdd, if_true, if_false, reduceCtorEq, l0]
        refine hK _ ?_
        clear hK K
        refine W.seqK fun K hK => W.cond (b := true) (by simp only [ev, lk, Nat.reduceEqDiff, if_true, if_false, reduceCtorEq]) (fun _ => W.skip ?_) (fun h => absurd h (by simp))
        rw [thn_normal]
        refine hK _ ?_
        clear hK K
        refine W.seqK fun K hK => W.blockK ?_
        refine W.seqK fun K hK => W.regionK tt_ok ?_
        simp only [exOps_cons, exOp_eq, exCall_eq, nx_eq, cur_eq, evL, stepQ, ev, lk, putT, erA, inB, opt, bnd, req, ret, onQ, ap, ldP, ldE, ldC, ldS, Kd.agg, comps, csize, takeI, takeC, dropC, true_and, and_self, Nat.reduceEqDiff, Nat.reduceLT, Nat.reduceLeDiff, Nat.reduceAdd, Nat.reduceSub, Nat.sub_self, Nat.le_refl, if_true, if_false, reduceCtorEq, Option.bind_some, Option.map_some, tt_23]
        refine CallK.with [(0, .obj 58 (.agg [.mp 1, .mp 2, .nils])), (1, .mset (.strs [])), (2, .mset (.strs []))] [(0, .obj 58 (.agg [.mp 1, .mp 2, .sl 576 1 0 (encL ((scT [] k (0 + 1)).1)).length])), (1, .mset (.strs (nmL (encL ((scT [] k (0 + 1)).1))))), (2, .mset (.strs (tmL (encL ((scT [] k (0 + 1)).1))))), (576, .vec 9 (.strs (alL (encL ((scT [] k (0 + 1)).1)))))] _ _ c12 call12 (by simp only [AV.nmIn, bnd, req, ret, onQ, AV.isTup, isTupL, and_true, true_and, and_self, Nat.zero_add, Bool.false_eq_true, List.append_nil, vw.vwL, vw, AV.free, AV.freeL, Bool.or_self]; all_goals (and_intros <;> first | exact AV.subL_refl _ | omega | (simp [AV.sub, entsFree, Ent.free, Row.free]; done) | rfl | (simp [AV.subL_refl]; done))) (by simp [leL, lk]) (by intro n hn; first | (left; revert hn; simp [Nm, lk]; done) | (right; revert hn; simp only [Nm, lk]; split <;> simp <;> omega) | (by_cases h1 : Nm [(0, .obj 58 (.agg [.mp 1, .mp 2, .nils])), (1, .mset (.strs [])), (2, .mset (.strs []))] n; exact .inl h1; right; revert hn h1; simp only [Nm, lk]; split <;> (try split) <;> (try split) <;> (try split) <;> (try simp) <;> (try omega))) (by simp [entsIn, Ent.nmIn, AV.nmIn, AV.nmInL, Nm, lk]) ?_
        simp only [callDel, exOps_nil, exOps_cons, exOp_eq, nx_eq, cur_eq, stepQ, ev, lk, putT, erA, inB, opt, bnd, req, ret, onQ, ap, up, er, AV.isTup, AV.isAgg, Kd.agg, comps, szL, csize, takeI, takeC, dropC, stP, stE, stC, stS, and_true, true_and, and_self, Nat.reduceEqDiff, Nat.reduceLT, Nat.reduceLeDiff, Nat.reduceAdd, Nat.reduceSub, Nat.sub_self, Nat.le_refl, Nat.add_zero, Nat.zero_add, if_true, if_false, reduceCtorEq, List.getElem?_cons_zero, List.getElem?_cons_succ, Option.bind_some, Option.map_some, List.append_nil, List.nil_append, List.cons_append, tt_23, List.map_cons, List.map_nil, List.reverse_cons, List.reverse_nil]
        refine hK _ ?_
        clear hK K
        refine W.swap 5 576 (by simp [Nm, lk]) ?_
        simp [St.swap, tmMap, enMap, swp, AV.map, AV.mapL, Ent.map, Row.map]
        refine W.seqK fun Kn hKn => ?_
        refine W.seqK fun K hK => W.regionK tt_ok ?_
        simp only [Int.reduceBNe, exOps_nil, exOps_cons, exOp_eq, nx_eq, cur_eq, stepQ, ev, ofV, lk, putT, erA, inB, opt, bnd, req, ret, onQ, ap, binI, binG, binF, intF, true_and, and_self, Nat.reduceEqDiff, Nat.reduceLT, Nat.reduceAdd, if_true, if_false, reduceCtorEq]
        refine hK _ ?_
        clear hK K
        refine W.cond (b := false) (by simp only [ev, lk, Nat.reduceEqDiff, if_true, if_false, reduceCtorEq]) (fun h => absurd h (by simp)) (fun _ => W.skip ?_)
        simp only [thn_normal]
        refine hKn _ ?_
        refine W.seqK fun K hK => W.regionK tt_ok ?_
        simp only [exOps_nil, exOps_cons, exOp_eq, nx_eq, cur_eq, stepQ, ev, lk, putT, erA, inB, opt, bnd, req, ret, onQ, ap, up, er, AV.isTup, AV.isAgg, ldP, ldE, ldC, ldS, Kd.agg, comps, szL, csize, takeI, takeC, dropC, stP, stE, stC, stS, and_true, true_and, and_self, Nat.reduceEqDiff, Nat.reduceLT, Nat.reduceLeDiff, Nat.reduceAdd, Nat.reduceSub, Nat.sub_self, Nat.le_refl, Nat.add_zero, Nat.zero_add, if_true, if_false, reduceCtorEq, Option.bind_some, Option.map_some, List.append_nil, List.nil_append, tt_23]
        refine hK _ ?_
        clear hK K
        refine W.region tt_ok ?_
        simp only [exOps_nil, exOps_cons, exOp_eq, exCall_eq, nx_eq, cur_eq, curV_eq, evL, evP, stepQ, ev, lk, putT, erA, inB, opt, bnd, req, ret, onQ, ap, up, er, AV.isTup, AV.isAgg, Kd.agg, comps, szL, csize, takeI, takeC, dropC, stC, stS, bltQ, bltV, appQ, appV, srcQ, Row.len, Row.sz, Row.take, Row.drop, Ent.row, Row.lst, bldA, bslQ, zeroCs, cellsRow, strsOf, thn_normal, inb_normal, and_true, true_and, and_self, and_false, Nat.reduceEqDiff, Nat.reduceLT, Nat.reduceLeDiff, Nat.reduceAdd, Nat.reduceSub, Nat.reduceMul, Nat.sub_self, Nat.le_refl, Nat.add_zero, Nat.zero_add, if_true, if_false, Bool.false_eq_true, reduceCtorEq, ne_eq, not_false_eq_true, Option.bind_some, Option.map_some, List.append_nil, List.nil_append, tt_9, tt_29, lit1, List.flatten_cons, List.flatten_nil, List.length_cons, List.length_nil, List.drop_zero, List.take_succ_cons, List.take_zero]
        refine .inl ?_
        refine hK _ ?_
        have hw0 : IntKind.i64.wrap (0 + 1) = 1 := by decide
        refine W.region tt_ok ?_
        simp only [exOps_nil, exOps_cons, exOp_eq, nx_eq, cur_eq, stepQ, ev, ofV, lk, putT, erA, inB, opt, bnd, req, ret, onQ, ap, binI, binG, binF, intF, thn_normal, true_and, and_self, Nat.reduceEqDiff, Nat.reduceLT, Nat.reduceAdd, if_true, if_false, reduceCtorEq, hw0]
        refine hK3 _ 1 4 832 (by omega) (by omega) (by simp [Nm, lk]) ?_
        simp at hke hl1
        simp [ssI, hke, hl1, tbX, St.swap, tmMap, enMap, swp, AV.map, AV.mapL, Ent.map, Row.map, wk, leL, lk, nmT, nmE, nmH, AV.nmIn, AV.nmInL, Ent.nmIn, Row.nmIn]
      | succ i =>
        have l1 : ((i + 1 : Nat) : Int) < (d : Nat) := by omega
        obtain ⟨s1, s2, s3⟩ := sc_ok (T := []) hok hk (i + 1)
        have c12 := synextXY (sc_T (T := []) hok hk i) s1 (by first | omega | (simp at s3; omega)) (scT [] k (i + 1)).2 (n + ((i + 1 : Nat) : Int)) (by omega) (by omega) (sc_ne hok hk hk0 (i + 1)) s2 5 576 (by omega) (by omega) (by omega) (by omega)
        have hnn : n + ((i + 1 : Nat) : Int) + 1 = n + ((i + 1 + 1 : Nat) : Int) := by omega
        rw [hnn, show putN (encL (scT [] k (i + 1)).1) 4 (kyP (scT [] k (i + 1)).2 sNext 0) = (scT [] k (i + 1 + 1)).2 from rfl, show putN (encL (syT (scT [] k (i + 1)).1 (scT [] k (i + 1)).2 sNext 1)) 4 (kyP (scT [] k (i + 1)).2 sNext 1) = scM [] k (i + 1) from rfl, show syT (scT [] k (i + 1)).1 (scT [] k (i + 1)).2 sNext 2 = (scT [] k (i + 1 + 1)).1 from rfl] at c12
        have hlk := scL_succ [] k (i + 1)
        have hll := scL_len [] k (i + 1)
        have hlk2 : scL [] k (i + 1 + 1) = List.take (i + 1) (scL [] k (i + 1)) ++ [scM [] k (i + 1)] := by rw [List.take_of_length_le (by omega)]; exact hlk
        have hwk : IntKind.i64.wrap (((i + 1 : Nat) : Int) + 1) = ((i + 1 + 1 : Nat) : Int) := wrap_up (i + 1) (by omega)
        have hwk2 : IntKind.i64.wrap ((i : Int) + 1 + 1) = (i : Int) + 2 := by rw [IntKind.wrap_i64]; omega
        generalize hke : (scT [] k (i + 1 + 1)).2 = k1 at *
        generalize scM [] k (i + 1) = m0 at *
        generalize hne : n + ((i + 1 + 1 : Nat) : Int) = n' at *
        simp only [cV, tbX] at c12
        simp only [ssI, tbX]
        refine W.seqK fun K hK => W.regionK tt_ok ?_
        simp only [decide_true, exOps_nil, exOps_cons, exOp_eq, nx_eq, cur_eq, stepQ, ev, lk, putT, erA, inB, opt, bnd, req, ret, onQ, ap, binI, binG, binF, intF, true_and, and_self, Nat.reduceEqDiff, Nat.reduceLT, Nat.reduceAdd, if_true, if_false, reduceCtorEq, l1]
        refine hK _ ?_
        clear hK K
        refine W.seqK fun K hK => W.cond (b := true) (by simp only [ev, lk, Nat.reduceEqDiff, if_true, if_false, reduceCtorEq]) (fun _ => W.skip ?_) (fun h => absurd h (by simp))
        rw [thn_normal]
        refine hK _ ?_
        clear hK K
        refine W.seqK fun K hK => W.blockK ?_
        refine W.seqK fun K hK => W.regionK tt_ok ?_
        simp only [exOps_cons, exOp_eq, exCall_eq, nx_eq, cur_eq, evL, stepQ, ev, lk, putT, erA, inB, opt, bnd, req, ret, onQ, ap, ldP, ldE, ldC, ldS, Kd.agg, comps, csize, takeI, takeC, dropC, true_and, and_self, Nat.reduceEqDiff, Nat.reduceLT, Nat.reduceLeDiff, Nat.reduceAdd, Nat.reduceSub, Nat.sub_self, Nat.le_refl, if_true, if_false, reduceCtorEq, Option.bind_some, Option.map_some, tt_23]
        refine CallK.with [(0, .obj 58 (.agg [.mp 1, .mp 2, .sl 5 1 0 (encL ((scT [] k (i + 1)).1)).length])), (1, .mset (.strs (nmL (encL ((scT [] k (i + 1)).1))))), (2, .mset (.strs (tmL (encL ((scT [] k (i + 1)).1))))), (5, .vec 9 (.strs (alL (encL ((scT [] k (i + 1)).1)))))] [(0, .obj 58 (.agg [.mp 1, .mp 2, .sl 576 1 0 (encL ((scT [] k (i + 1 + 1)).1)).length])), (1, .mset (.strs (nmL (encL ((scT [] k (i + 1 + 1)).1))))), (2, .mset (.strs (tmL (encL ((scT [] k (i + 1 + 1)).1))))), (576, .vec 9 (.strs (alL (encL ((scT [] k (i + 1 + 1)).1)))))] _ _ c12 call12 (by simp only [AV.nmIn, bnd, req, ret, onQ, AV.isTup, isTupL, and_true, true_and, and_self, Bool.false_eq_true, List.append_nil, vw.vwL, vw, AV.free, AV.freeL, Bool.or_self]; all_goals (and_intros <;> first | exact AV.subL_refl _ | omega | (simp [AV.sub, entsFree, Ent.free, Row.free]; done) | rfl | (simp [AV.subL_refl]; done))) (by simp [leL, lk]) (by intro n hn; first | (left; revert hn; simp [Nm, lk]; done) | (right; revert hn; simp only [Nm, lk]; split <;> simp <;> omega) | (by_cases h1 : Nm [(0, .obj 58 (.agg [.mp 1, .mp 2, .sl 5 1 0 (encL ((scT [] k (i + 1)).1)).length])), (1, .mset (.strs (nmL (encL ((scT [] k (i + 1)).1))))), (2, .mset (.strs (tmL (encL ((scT [] k (i + 1)).1))))), (5, .vec 9 (.strs (alL (encL ((scT [] k (i + 1)).1)))))] n; exact .inl h1; right; revert hn h1; simp only [Nm, lk]; split <;> (try split) <;> (try split) <;> (try split) <;> (try simp) <;> (try omega))) (by simp [entsIn, Ent.nmIn, Row.nmIn, AV.nmIn, AV.nmInL, Nm, lk]) ?_
        simp only [callDel, exOps_nil, exOps_cons, exOp_eq, nx_eq, cur_eq, stepQ, ev, lk, putT, erA, inB, opt, bnd, req, ret, onQ, ap, up, er, AV.isTup, AV.isAgg, Kd.agg, comps, szL, csize, takeI, takeC, dropC, stP, stE, stC, stS, and_true, true_and, and_self, Nat.reduceEqDiff, Nat.reduceLT, Nat.reduceLeDiff, Nat.reduceAdd, Nat.reduceSub, Nat.sub_self, Nat.le_refl, Nat.add_zero, Nat.zero_add, if_true, if_false, reduceCtorEq, List.getElem?_cons_zero, List.getElem?_cons_succ, Option.bind_some, Option.map_some, List.append_nil, List.nil_append, List.cons_append, tt_23, List.map_cons, List.map_nil, List.reverse_cons, List.reverse_nil]
        refine hK _ ?_
        clear hK K
        refine W.swap 5 576 (by simp [Nm, lk]) ?_
        simp [St.swap, tmMap, enMap, swp, AV.map, AV.mapL, Ent.map, Row.map]
        refine W.seqK fun Kn hKn => ?_
        refine W.seqK fun K hK => W.regionK tt_ok ?_
        simp only [Int.reduceBNe, exOps_nil, exOps_cons, exOp_eq, nx_eq, cur_eq, stepQ, ev, ofV, lk, putT, erA, inB, opt, bnd, req, ret, onQ, ap, binI, binG, binF, intF, true_and, and_self, Nat.reduceEqDiff, Nat.reduceLT, Nat.reduceAdd, if_true, if_false, reduceCtorEq]
        refine hK _ ?_
        clear hK K
        refine W.cond (b := false) (by simp only [ev, lk, Nat.reduceEqDiff, if_true, if_false, reduceCtorEq]) (fun h => absurd h (by simp)) (fun _ => W.skip ?_)
        simp only [thn_normal]
        refine hKn _ ?_
        refine W.seqK fun K hK => W.regionK tt_ok ?_
        simp only [exOps_nil, exOps_cons, exOp_eq, nx_eq, cur_eq, stepQ, ev, lk, putT, erA, inB, opt, bnd, req, ret, onQ, ap, up, er, AV.isTup, AV.isAgg, ldP, ldE, ldC, ldS, Kd.agg, comps, szL, csize, takeI, takeC, dropC, stP, stE, stC, stS, and_true, true_and, and_self, Nat.reduceEqDiff, Nat.reduceLT, Nat.reduceLeDiff, Nat.reduceAdd, Nat.reduceSub, Nat.sub_self, Nat.le_refl, Nat.add_zero, Nat.zero_add, if_true, if_false, reduceCtorEq, Option.bind_some, Option.map_some, List.append_nil, List.nil_append, tt_23]
        refine hK _ ?_
        clear hK K
        refine W.region tt_ok ?_
        simp only [exOps_nil, exOps_cons, exOp_eq, exCall_eq, nx_eq, cur_eq, evL, evP, stepQ, ev, lk, putT, erA, inB, opt, bnd, req, ret, onQ, ap, up, er, AV.isTup, AV.isAgg, Kd.agg, comps, szL, csize, takeI, takeC, dropC, stC, stS, bltQ, bltV, appR, appQ, appV, srcQ, Row.len, Row.sz, Row.take, Row.drop, Row.app, Ent.row, bldA, bslQ, zeroCs, cellsRow, strsOf, thn_normal, inb_normal, and_true, true_and, and_self, and_false, or_false, Nat.reduceEqDiff, Nat.reduceLT, Nat.reduceLeDiff, Nat.reduceAdd, Nat.reduceSub, Nat.reduceMul, Nat.sub_self, Nat.le_refl, Nat.add_zero, Nat.zero_add, if_true, if_false, Bool.false_eq_true, reduceCtorEq, Option.bind_some, Option.map_some, List.append_nil, List.nil_append, tt_9, tt_29, lit1, List.flatten_cons, List.flatten_nil, List.length_cons, List.length_nil, List.drop_zero, List.take_succ_cons, List.take_zero]
        refine ⟨⟨by omega, by omega, by omega⟩, ?_⟩
        refine hK _ ?_
        refine W.region tt_ok ?_
        simp only [exOps_nil, exOps_cons, exOp_eq, nx_eq, cur_eq, stepQ, ev, ofV, lk, putT, erA, inB, opt, bnd, req, ret, onQ, ap, binI, binG, binF, intF, thn_normal, true_and, and_self, Nat.reduceEqDiff, Nat.reduceLT, Nat.reduceAdd, if_true, if_false, reduceCtorEq, hwk2]
        refine hK3 _ (i + 2) 4 832 (by omega) (by omega) (by simp [Nm, lk]) ?_
        simp [ssI, hke, hlk2, ← hne, tbX, St.swap, tmMap, enMap, swp, AV.map, AV.mapL, Ent.map, Row.map, wk, leL, lk, nmT, nmE, nmH, AV.nmIn, AV.nmInL, Ent.nmIn, Row.nmIn]
        omega
    · obtain rfl : i = d := by omega
      have l1 : ¬ ((i : Nat) : Int) < (i : Nat) := by omega
      cases i with
      | zero => omega
      | succ i =>
        subst ht
        simp only [ssI, tbX]
        refine W.seqK fun K hK => W.regionK tt_ok ?_
        simp only [decide_false, exOps_nil, exOps_cons, exOp_eq, nx_eq, cur_eq, stepQ, ev, lk, putT, erA, inB, opt, bnd, req, ret, onQ, ap, binI, binG, binF, intF, true_and, and_self, Nat.reduceEqDiff, Nat.reduceLT, Nat.reduceAdd, if_true, if_false, reduceCtorEq, l1]
        refine hK _ ?_
        clear hK K
        refine W.seqK fun K hK => W.cond (b := false) (by simp only [ev, lk, Nat.reduceEqDiff, if_true, if_false, reduceCtorEq]) (fun h => absurd h (by simp)) (fun _ => W.exit ?_)
        simp only [thn_normal, thn_exit, inb_exit, if_true]
        clear hK K
        refine hKy _ ?_
        refine W.seqK fun K hK => W.regionK tt_ok ?_
        simp only [exOps_nil, exOps_cons, exOp_eq, nx_eq, cur_eq, stepQ, ev, ofV, lk, putT, erA, inB, opt, bnd, req, ret, onQ, ap, up, er, AV.isTup, AV.isAgg, ldP, ldE, ldC, ldS, Kd.agg, comps, szL, csize, takeI, takeC, dropC, stP, stE, stC, stS, and_true, true_and, and_self, Nat.reduceEqDiff, Nat.reduceLT, Nat.reduceLeDiff, Nat.reduceAdd, Nat.reduceSub, Nat.sub_self, Nat.le_refl, Nat.add_zero, Nat.zero_add, if_true, if_false, reduceCtorEq, Option.bind_some, Option.map_some, List.append_nil, List.nil_append, tt_23]
        refine hK _ ?_
        clear hK K
        refine W.ret ?_
        simp only [fin_ret, finB, resQ, resV, leL, AV.nmIn, AV.nmInL, entsIn, lk, opt, bnd, req, ret, onQ, AV.isTup, ldP, ldE, ldC, ldS, Kd.agg, comps, csize, takeI, takeC, dropC, and_true, true_and, and_self, Nat.reduceEqDiff, Nat.reduceLeDiff, Nat.reduceSub, Nat.sub_self, Nat.le_refl, if_true, if_false, reduceCtorEq, Option.bind_some, Option.map_some, tt_23]
        simp [cV, tbX, leL, Nm, lk, entsIn, Ent.nmIn, Row.nmIn, AV.nmIn, AV.nmInL]
  · rw [tabS_ne 3 hT, cV]
    simp only [tbX]
    refine FnR.of_walk (m := 70) (n0 := 16) tt_ok Try.func11 rfl rfl (by simp) (by simp [nmH]) ?_
    rw [show Try.f11.results.toList = [.cell 6 23, .tmp 7, .tmp 8] from rfl]
    refine W.seqK fun K hK => W.regionK tt_ok ?_
    simp only [exOps_nil, exOps_cons, exOp_eq, nx_eq, cur_eq, stepQ, ev, ofV, lk, parT, putT, erA, inB, opt, req, ret, onQ, ap, up, er, AV.isTup, true_and, and_self, Nat.reduceEqDiff, Nat.reduceLT, Nat.reduceAdd, Nat.zero_add, if_true, if_false, reduceCtorEq, tt_23]
    refine hK _ ?_
    clear hK K
    refine W.seqK fun Kb hKb => ?_
    refine W.blockK ?_
    refine W.seqK fun K hK => W.regionK tt_ok ?_
    simp only [exOps_nil, exOps_cons, exOp_eq, nx_eq, cur_eq, stepQ, ev, ofV, lk, putT, erA, inB, opt, bnd, req, ret, onQ, ap, binI, binG, eqOp, true_and, and_self, Nat.reduceEqDiff, Nat.reduceLT, Nat.reduceAdd, if_true, if_false, reduceCtorEq, tt_28]
    refine hK _ ?_
    clear hK K
    refine W.cond (b := false) (by simp only [ev, lk, Nat.reduceEqDiff, if_true, if_false, reduceCtorEq]) (fun h => absurd h (by simp)) (fun _ => ?_)
    refine W.seqK fun K hK => W.regionK tt_ok ?_
    simp only [↓gFF, ↓nFF, decide_false, exOps_nil, exOps_cons, exOp_eq, nx_eq, cur_eq, stepQ, ev, ofV, lk, putT, erA, inB, opt, bnd, req, ret, onQ, ap, binI, binG, binF, intF, pickF, ldP, ldE, ldC, ldS, Kd.agg, comps, csize, takeI, takeC, dropC, fldF, and_true, true_and, and_self, Nat.reduceEqDiff, Nat.reduceLT, Nat.reduceLeDiff, Nat.reduceAdd, Nat.reduceSub, Nat.sub_self, Nat.le_refl, Nat.zero_add, if_true, if_false, Bool.false_eq_true, reduceCtorEq, ne_eq, not_false_eq_true, List.getElem?_cons_zero, List.getElem?_cons_succ, Option.bind_some, Option.map_some, tt_3, tt_23, n1, n2]
    refine hK _ ?_
    clear hK K
    refine W.cond (b := false) (by simp only [ev, lk, Nat.reduceEqDiff, if_true, if_false, reduceCtorEq]) (fun h => absurd h (by simp)) (fun _ => ?_)
    refine W.seqK fun K hK => W.regionK tt_ok ?_
    simp only [decide_false, exOps_nil, exOps_cons, exOp_eq, nx_eq, cur_eq, stepQ, ev, lk, putT, erA, inB, opt, bnd, req, ret, onQ, ap, binI, binG, binF, intF, ldP, ldE, ldC, ldS, Kd.agg, comps, csize, takeI, takeC, dropC, fldF, true_and, and_self, Nat.reduceEqDiff, Nat.reduceLT, Nat.reduceLeDiff, Nat.reduceAdd, Nat.reduceSub, Nat.sub_self, Nat.le_refl, Nat.zero_add, if_true, if_false, Bool.false_eq_true, reduceCtorEq, ne_eq, not_false_eq_true, List.getElem?_cons_zero, List.getElem?_cons_succ, Option.bind_some, Option.map_some, tt_3, tt_23, n3]
    refine hK _ ?_
    clear hK K
    refine W.cond (b := false) (by simp only [ev, lk, Nat.reduceEqDiff, if_true, if_false, reduceCtorEq]) (fun h => absurd h (by simp)) (fun _ => ?_)
    refine W.seqK fun K hK => W.regionK tt_ok ?_
    simp only [decide_false, exOps_nil, exOps_cons, exOp_eq, nx_eq, cur_eq, stepQ, ev, ofV, lk, putT, erA, inB, opt, bnd, req, ret, onQ, ap, binI, binG, binF, intF, true_and, and_self, Nat.reduceEqDiff, Nat.reduceLT, Nat.reduceAdd, if_true, if_false, reduceCtorEq, n4]
    refine hK _ ?_
    clear hK K
    refine W.cond (b := false) (by simp only [ev, lk, Nat.reduceEqDiff, if_true, if_false, reduceCtorEq]) (fun h => absurd h (by simp)) (fun _ => ?_)
    refine W.seqK fun K hK => W.regionK tt_ok ?_
    simp only [decide_false, exOps_nil, exOps_cons, exOp_eq, nx_eq, cur_eq, stepQ, ev, ofV, lk, putT, erA, inB, opt, bnd, req, ret, onQ, ap, binI, binG, binF, intF, ldP, ldE, ldC, ldS, Kd.agg, comps, csize, takeI, takeC, dropC, fldF, true_and, and_self, Nat.reduceEqDiff, Nat.reduceLT, Nat.reduceLeDiff, Nat.reduceAdd, Nat.reduceSub, Nat.sub_self, Nat.le_refl, Nat.zero_add, if_true, if_false, Bool.false_eq_true, reduceCtorEq, ne_eq, not_false_eq_true, List.getElem?_cons_zero, List.getElem?_cons_succ, Option.bind_some, Option.map_some, tt_3, tt_23, n5, hsb]
    refine hK _ ?_
    clear hK K
    refine W.cond (b := false) (by simp only [ev, lk, Nat.reduceEqDiff, if_true, if_false, reduceCtorEq]) (fun h => absurd h (by simp)) (fun _ => ?_)
    refine W.skip ?_
    simp only [thn_normal, inb_normal]
    refine hKb _ ?_
    refine W.seqK fun K hK => W.regionK tt_ok ?_
    simp only [exOps_nil, exOps_cons, exOp_eq, nx_eq, cur_eq, stepQ, ev, lk, putT, erA, inB, opt, bnd, req, ret, onQ, ap, up, er, AV.isTup, AV.isAgg, ldP, ldE, ldC, ldS, Kd.agg, comps, szL, csize, takeI, takeC, dropC, stP, stE, stC, stS, and_true, true_and, and_self, Nat.reduceEqDiff, Nat.reduceLT, Nat.reduceLeDiff, Nat.reduceAdd, Nat.reduceSub, Nat.sub_self, Nat.le_refl, Nat.add_zero, Nat.zero_add, if_true, if_false, reduceCtorEq, Option.bind_some, Option.map_some, List.append_nil, List.nil_append, tt_23]
    refine hK _ ?_
    clear hK K
    refine W.seqK fun K hK => W.regionK tt_ok ?_
    simp only [exOps_nil, exOps_cons, exOp_eq, nx_eq, cur_eq, stepQ, ev, ofV, putT, erA, inB, opt, ret, onQ, ap, true_and, Nat.reduceEqDiff, Nat.reduceLT, Nat.reduceAdd, if_false, reduceCtorEq]
    refine hK _ ?_
    clear hK K
    refine W.seqK fun Ky hKy => ?_
    refine W.seqK fun K hK => W.regionK tt_ok ?_
    simp only [exOps_nil, exOps_cons, exOp_eq, nx_eq, cur_eq, stepQ, ev, ofV, lk, putT, erA, inB, opt, bnd, req, ret, onQ, ap, binI, binG, binF, intF, ldP, ldE, ldC, ldS, Kd.agg, comps, csize, takeI, takeC, dropC, fldF, true_and, and_self, Nat.reduceEqDiff, Nat.reduceLT, Nat.reduceLeDiff, Nat.reduceAdd, Nat.reduceSub, Nat.sub_self, Nat.le_refl, Nat.zero_add, if_true, if_false, Bool.false_eq_true, reduceCtorEq, ne_eq, not_false_eq_true, List.getElem?_cons_zero, List.getElem?_cons_succ, Option.bind_some, Option.map_some, tt_3, tt_23, hsb]
    refine hK _ ?_
    clear hK K
    refine W.blockK ?_
    refine W.loopS (fun i : Nat => i ≤ d) (ssI T k n d) (fun i => d - i) 0 (by simp) (by simp [ssI, tabS_ne 3 hT, tbX, wk, leL, lk, nmT, nmE, nmH, AV.nmIn, AV.nmInL, Ent.nmIn, Row.nmIn]) ?_
    intro i hi K3 hK3
    by_cases hlt : i < d
    · cases i with
      | zero =>
        have l0 : (0 : Int) < (d : Nat) := by omega
        have c12 := synext0 (T := T) hok (by first | omega | simp) k n h1 (by omega) hk0 hk 576 (by omega) (by omega)
        rw [show putN (encL T) 4 (kyP k sNext 0) = (scT T k (0 + 1)).2 from rfl, show putN (encL (syT T k sNext 1)) 4 (kyP k sNext 1) = scM T k 0 from rfl, show syT T k sNext 2 = (scT T k (0 + 1)).1 from rfl] at c12
        have hl1 : scL T k (0 + 1) = [scM T k 0] := rfl
        generalize hke : (scT T k (0 + 1)).2 = k1 at *
        generalize scM T k 0 = m0 at *
        simp only [cV, tabS_ne 3 hT, tbX] at c12
        simp only [ssI, tabS_ne 3 hT, tbX]
        refine W.seqK fun K hK => W.regionK tt_ok ?_
        simp only [decide_true, exOps_nil, exOps_cons, exOp_eq, nx_eq, cur_eq, stepQ, ev, lk, putT, erA, inB, opt, bnd, req, ret, onQ, ap, binI, binG, binF, intF, true_and, and_self, Nat.reduceEqDiff, Nat.reduceLT, Nat.reduceAdd, if_true, if_false, reduceCtorEq, l0]
        refine hK _ ?_
        clear hK K
        refine W.seqK fun K hK => W.cond (b := true) (by simp only [ev, lk, Nat.reduceEqDiff, if_true, if_false, reduceCtorEq]) (fun _ => W.skip ?_) (fun h => absurd h (by simp))
        rw [thn_normal]
        refine hK _ ?_
        clear hK K
        refine W.seqK fun K hK => W.blockK ?_
        refine W.seqK fun K hK => W.regionK tt_ok ?_
        simp only [exOps_cons, exOp_eq, exCall_eq, nx_eq, cur_eq, evL, stepQ, ev, lk, putT, erA, inB, opt, bnd, req, ret, onQ, ap, ldP, ldE, ldC, ldS, Kd.agg, comps, csize, takeI, takeC, dropC, true_and, and_self, Nat.reduceEqDiff, Nat.reduceLT, Nat.reduceLeDiff, Nat.reduceAdd, Nat.reduceSub, Nat.sub_self, Nat.le_refl, if_true, if_false, reduceCtorEq, Option.bind_some, Option.map_some, tt_23]
        refine CallK.with [(0, .obj 58 (.agg [.mp 1, .mp 2, .sl 3 1 0 (encL (T)).length])), (1, .mset (.strs (nmL (encL (T))))), (2, .mset (.strs (tmL (encL (T))))), (3, .vec 9 (.strs (alL (encL (T)))))] [(0, .obj 58 (.agg [.mp 1, .mp 2, .sl 576 1 0 (encL ((scT T k (0 + 1)).1)).length])), (1, .mset (.strs (nmL (encL ((scT T k (0 + 1)).1))))), (2, .mset (.strs (tmL (encL ((scT T k (0 + 1)).1))))), (576, .vec 9 (.strs (alL (encL ((scT T k (0 + 1)).1)))))] _ _ c12 call12 (by simp only [AV.nmIn, bnd, req, ret, onQ, AV.isTup, isTupL, and_true, true_and, and_self, Nat.zero_add, Bool.false_eq_true, List.append_nil, vw.vwL, vw, AV.free, AV.freeL, Bool.or_self]; all_goals (and_intros <;> first | exact AV.subL_refl _ | omega | (simp [AV.sub, entsFree, Ent.free, Row.free]; done) | rfl | (simp [AV.subL_refl]; done))) (by simp [leL, lk]) (by intro n hn; first | (left; revert hn; simp [Nm, lk]; done) | (right; revert hn; simp only [Nm, lk]; split <;> simp <;> omega) | (by_cases h1 : Nm [(0, .obj 58 (.agg [.mp 1, .mp 2, .sl 3 1 0 (encL (T)).length])), (1, .mset (.strs (nmL (encL (T))))), (2, .mset (.strs (tmL (encL (T))))), (3, .vec 9 (.strs (alL (encL (T)))))] n; exact .inl h1; right; revert hn h1; simp only [Nm, lk]; split <;> (try split) <;> (try split) <;> (try split) <;> (try simp) <;> (try omega))) (by simp [entsIn, Ent.nmIn, Row.nmIn, AV.nmIn, AV.nmInL, Nm, lk]) ?_
        simp only [callDel, exOps_nil, exOps_cons, exOp_eq, nx_eq, cur_eq, stepQ, ev, lk, putT, erA, inB, opt, bnd, req, ret, onQ, ap, up, er, AV.isTup, AV.isAgg, Kd.agg, comps, szL, csize, takeI, takeC, dropC, stP, stE, stC, stS, and_true, true_and, and_self, Nat.reduceEqDiff, Nat.reduceLT, Nat.reduceLeDiff, Nat.reduceAdd, Nat.reduceSub, Nat.sub_self, Nat.le_refl, Nat.add_zero, Nat.zero_add, if_true, if_false, reduceCtorEq, List.getElem?_cons_zero, List.getElem?_cons_succ, Option.bind_some, Option.map_some, List.append_nil, List.nil_append, List.cons_append, tt_23, List.map_cons, List.map_nil, List.reverse_cons, List.reverse_nil]
        refine hK _ ?_
        clear hK K
        refine W.swap 5 576 (by simp [Nm, lk]) ?_
        simp [St.swap, tmMap, enMap, swp, AV.map, AV.mapL, Ent.map, Row.map]
        refine W.seqK fun Kn hKn => ?_
        refine W.seqK fun K hK => W.regionK tt_ok ?_
        simp only [Int.reduceBNe, exOps_nil, exOps_cons, exOp_eq, nx_eq, cur_eq, stepQ, ev, ofV, lk, putT, erA, inB, opt, bnd, req, ret, onQ, ap, binI, binG, binF, intF, true_and, and_self, Nat.reduceEqDiff, Nat.reduceLT, Nat.reduceAdd, if_true, if_false, reduceCtorEq]
        refine hK _ ?_
        clear hK K
        refine W.cond (b := false) (by simp only [ev, lk, Nat.reduceEqDiff, if_true, if_false, reduceCtorEq]) (fun h => absurd h (by simp)) (fun _ => W.skip ?_)
        simp only [thn_normal]
        refine hKn _ ?_
        refine W.seqK fun K hK => W.regionK tt_ok ?_
        simp only [exOps_nil, exOps_cons, exOp_eq, nx_eq, cur_eq, stepQ, ev, lk, putT, erA, inB, opt, bnd, req, ret, onQ, ap, up, er, AV.isTup, AV.isAgg, ldP, ldE, ldC, ldS, Kd.agg, comps, szL, csize, takeI, takeC, dropC, stP, stE, stC, stS, and_true, true_and, and_self, Nat.reduceEqDiff, Nat.reduceLT, Nat.reduceLeDiff, Nat.reduceAdd, Nat.reduceSub, Nat.sub_self, Nat.le_refl, Nat.add_zero, Nat.zero_add, if_true, if_false, reduceCtorEq, Option.bind_some, Option.map_some, List.append_nil, List.nil_append, tt_23]
        refine hK _ ?_
        clear hK K
        refine W.region tt_ok ?_
        simp only [exOps_nil, exOps_cons, exOp_eq, exCall_eq, nx_eq, cur_eq, curV_eq, evL, evP, stepQ, ev, lk, putT, erA, inB, opt, bnd, req, ret, onQ, ap, up, er, AV.isTup, AV.isAgg, Kd.agg, comps, szL, csize, takeI, takeC, dropC, stC, stS, bltQ, bltV, appQ, appV, srcQ, Row.len, Row.sz, Row.take, Row.drop, Ent.row, Row.lst, bldA, bslQ, zeroCs, cellsRow, strsOf, thn_normal, inb_normal, and_true, true_and, and_self, and_false, Nat.reduceEqDiff, Nat.reduceLT, Nat.reduceLeDiff, Nat.reduceAdd, Nat.reduceSub, Nat.reduceMul, Nat.sub_self, Nat.le_refl, Nat.add_zero, Nat.zero_add, if_true, if_false, Bool.false_eq_true, reduceCtorEq, ne_eq, not_false_eq_true, Option.bind_some, Option.map_some, List.append_nil, List.nil_append, tt_9, tt_29, lit1, List.flatten_cons, List.flatten_nil, List.length_cons, List.length_nil, List.drop_zero, List.take_succ_cons, List.take_zero]
        refine .inl ?_
        refine hK _ ?_
        have hw0 : IntKind.i64.wrap (0 + 1) = 1 := by decide
        refine W.region tt_ok ?_
        simp only [exOps_nil, exOps_cons, exOp_eq, nx_eq, cur_eq, stepQ, ev, ofV, lk, putT, erA, inB, opt, bnd, req, ret, onQ, ap, binI, binG, binF, intF, thn_normal, true_and, and_self, Nat.reduceEqDiff, Nat.reduceLT, Nat.reduceAdd, if_true, if_false, reduceCtorEq, hw0]
        refine hK3 _ 1 4 832 (by omega) (by omega) (by simp [Nm, lk]) ?_
        simp at hke hl1
        simp [ssI, hke, hl1, tbX, St.swap, tmMap, enMap, swp, AV.map, AV.mapL, Ent.map, Row.map, wk, leL, lk, nmT, nmE, nmH, AV.nmIn, AV.nmInL, Ent.nmIn, Row.nmIn]
      | succ i =>
        have l1 : ((i + 1 : Nat) : Int) < (d : Nat) := by omega
        obtain ⟨s1, s2, s3⟩ := sc_ok (T := T) hok hk (i + 1)
        have c12 := synextXY (sc_T (T := T) hok hk i) s1 (by first | omega | (simp at s3; omega)) (scT T k (i + 1)).2 (n + ((i + 1 : Nat) : Int)) (by omega) (by omega) (sc_ne hok hk hk0 (i + 1)) s2 5 576 (by omega) (by omega) (by omega) (by omega)
        have hnn : n + ((i + 1 : Nat) : Int) + 1 = n + ((i + 1 + 1 : Nat) : Int) := by omega
        rw [hnn, show putN (encL (scT T k (i + 1)).1) 4 (kyP (scT T k (i + 1)).2 sNext 0) = (scT T k (i + 1 + 1)).2 from rfl, show putN (encL (syT (scT T k (i + 1)).1 (scT T k (i + 1)).2 sNext 1)) 4 (kyP (scT T k (i + 1)).2 sNext 1) = scM T k (i + 1) from rfl, show syT (scT T k (i + 1)).1 (scT T k (i + 1)).2 sNext 2 = (scT T k (i + 1 + 1)).1 from rfl] at c12
        have hlk := scL_succ T k (i + 1)
        have hll := scL_len T k (i + 1)
        have hlk2 : scL T k (i + 1 + 1) = List.take (i + 1) (scL T k (i + 1)) ++ [scM T k (i + 1)] := by rw [List.take_of_length_le (by omega)]; exact hlk
        have hwk : IntKind.i64.wrap (((i + 1 : Nat) : Int) + 1) = ((i + 1 + 1 : Nat) : Int) := wrap_up (i + 1) (by omega)
        have hwk2 : IntKind.i64.wrap ((i : Int) + 1 + 1) = (i : Int) + 2 := by rw [IntKind.wrap_i64]; omega
        generalize hke : (scT T k (i + 1 + 1)).2 = k1 at *
        generalize scM T k (i + 1) = m0 at *
        generalize hne : n + ((i + 1 + 1 : Nat) : Int) = n' at *
        simp only [cV, tbX] at c12
        simp only [ssI, tbX]
        refine W.seqK fun K hK => W.regionK tt_ok ?_
        simp only [decide_true, exOps_nil, exOps_cons, exOp_eq, nx_eq, cur_eq, stepQ, ev, lk, putT, erA, inB, opt, bnd, req, ret, onQ, ap, binI, binG, binF, intF, true_and, and_self, Nat.reduceEqDiff, Nat.reduceLT, Nat.reduceAdd, if_true, if_false, reduceCtorEq, l1]
        refine hK _ ?_
        clear hK K
        refine W.seqK fun K hK => W.cond (b := true) (by simp only [ev, lk, Nat.reduceEqDiff, if_true, if_false, reduceCtorEq]) (fun _ => W.skip ?_) (fun h => absurd h (by simp))
        rw [thn_normal]
        refine hK _ ?_
        clear hK K
        refine W.seqK fun K hK => W.blockK ?_
        refine W.seqK fun K hK => W.regionK tt_ok ?_
        simp only [exOps_cons, exOp_eq, exCall_eq, nx_eq, cur_eq, evL, stepQ, ev, lk, putT, erA, inB, opt, bnd, req, ret, onQ, ap, ldP, ldE, ldC, ldS, Kd.agg, comps, csize, takeI, takeC, dropC, true_and, and_self, Nat.reduceEqDiff, Nat.reduceLT, Nat.reduceLeDiff, Nat.reduceAdd, Nat.reduceSub, Nat.sub_self, Nat.le_refl, if_true, if_false, reduceCtorEq, Option.bind_some, Option.map_some, tt_23]
        refine CallK.with [(0, .obj 58 (.agg [.mp 1, .mp 2, .sl 5 1 0 (encL ((scT T k (i + 1)).1)).length])), (1, .mset (.strs (nmL (encL ((scT T k (i + 1)).1))))), (2, .mset (.strs (tmL (encL ((scT T k (i + 1)).1))))), (5, .vec 9 (.strs (alL (encL ((scT T k (i + 1)).1)))))] [(0, .obj 58 (.agg [.mp 1, .mp 2, .sl 576 1 0 (encL ((scT T k (i + 1 + 1)).1)).length])), (1, .mset (.strs (nmL (encL ((scT T k (i + 1 + 1)).1))))), (2, .mset (.strs (tmL (encL ((scT T k (i + 1 + 1)).1))))), (576, .vec 9 (.strs (alL (encL ((scT T k (i + 1 + 1)).1)))))] _ _ c12 call12 (by simp only [AV.nmIn, bnd, req, ret, onQ, AV.isTup, isTupL, and_true, true_and, and_self, Bool.false_eq_true, List.append_nil, vw.vwL, vw, AV.free, AV.freeL, Bool.or_self]; all_goals (and_intros <;> first | exact AV.subL_refl _ | omega | (simp [AV.sub, entsFree, Ent.free, Row.free]; done) | rfl | (simp [AV.subL_refl]; done))) (by simp [leL, lk]) (by intro n hn; first | (left; revert hn; simp [Nm, lk]; done) | (right; revert hn; simp only [Nm, lk]; split <;> simp <;> omega) | (by_cases h1 : Nm [(0, .obj 58 (.agg [.mp 1, .mp 2, .sl 5 1 0 (encL ((scT T k (i + 1)).1)).length])), (1, .mset (.strs (nmL (encL ((scT T k (i + 1)).1))))), (2, .mset (.strs (tmL (encL ((scT T k (i + 1)).1))))), (5, .vec 9 (.strs (alL (encL ((scT T k (i + 1)).1)))))] n; exact .inl h1; right; revert hn h1; simp only [Nm, lk]; split <;> (try split) <;> (try split) <;> (try split) <;> (try simp) <;> (try omega))) (by simp [entsIn, Ent.nmIn, Row.nmIn, AV.nmIn, AV.nmInL, Nm, lk]) ?_
        simp only [callDel, exOps_nil, exOps_cons, exOp_eq, nx_eq, cur_eq, stepQ, ev, lk, putT, erA, inB, opt, bnd, req, ret, onQ, ap, up, er, AV.isTup, AV.isAgg, Kd.agg, comps, szL, csize, takeI, takeC, dropC, stP, stE, stC, stS, and_true, true_and, and_self, Nat.reduceEqDiff, Nat.reduceLT, Nat.reduceLeDiff, Nat.reduceAdd, Nat.reduceSub, Nat.sub_self, Nat.le_refl, Nat.add_zero, Nat.zero_add, if_true, if_false, reduceCtorEq, List.getElem?_cons_zero, List.getElem?_cons_succ, Option.bind_some, Option.map_some, List.append_nil, List.nil_append, List.cons_append, tt_23, List.map_cons, List.map_nil, List.reverse_cons, List.reverse_nil]
        refine hK _ ?_
        clear hK K
        refine W.swap 5 576 (by simp [Nm, lk]) ?_
        simp [St.swap, tmMap, enMap, swp, AV.map, AV.mapL, Ent.map, Row.map]
        refine W.seqK fun Kn hKn => ?_
        refine W.seqK fun K hK => W.regionK tt_ok ?_
        simp only [Int.reduceBNe, exOps_nil, exOps_cons, exOp_eq, nx_eq, cur_eq, stepQ, ev, ofV, lk, putT, erA, inB, opt, bnd, req, ret, onQ, ap, binI, binG, binF, intF, true_and, and_self, Nat.reduceEqDiff, Nat.reduceLT, Nat.reduceAdd, if_true, if_false, reduceCtorEq]
        refine hK _ ?_
        clear hK K
        refine W.cond (b := false) (by simp only [ev, lk, Nat.reduceEqDiff, if_true, if_false, reduceCtorEq]) (fun h => absurd h (by simp)) (fun _ => W.skip ?_)
        simp only [thn_normal]
        refine hKn _ ?_
        refine W.seqK fun K hK => W.regionK tt_ok ?_
        simp only [exOps_nil, exOps_cons, exOp_eq, nx_eq, cur_eq, stepQ, ev, lk, putT, erA, inB, opt, bnd, req, ret, onQ, ap, up, er, AV.isTup, AV.isAgg, ldP, ldE, ldC, ldS, Kd.agg, comps, szL, csize, takeI, takeC, dropC, stP, stE, stC, stS, and_true, true_and, and_self, Nat.reduceEqDiff, Nat.reduceLT, Nat.reduceLeDiff, Nat.reduceAdd, Nat.reduceSub, Nat.sub_self, Nat.le_refl, Nat.add_zero, Nat.zero_add, if_true, if_false, reduceCtorEq, Option.bind_some, Option.map_some, List.append_nil, List.nil_append, tt_23]
        refine hK _ ?_
        clear hK K
        refine W.region tt_ok ?_
        simp only [exOps_nil, exOps_cons, exOp_eq, exCall_eq, nx_eq, cur_eq, evL, evP, stepQ, ev, lk, putT, erA, inB, opt, bnd, req, ret, onQ, ap, up, er, AV.isTup, AV.isAgg, Kd.agg, comps, szL, csize, takeI, takeC, dropC, stC, stS, bltQ, bltV, appR, appQ, appV, srcQ, Row.len, Row.sz, Row.take, Row.drop, Row.app, Ent.row, bldA, bslQ, zeroCs, cellsRow, strsOf, thn_normal, inb_normal, and_true, true_and, and_self, and_false, or_false, Nat.reduceEqDiff, Nat.reduceLT, Nat.reduceLeDiff, Nat.reduceAdd, Nat.reduceSub, Nat.reduceMul, Nat.sub_self, Nat.le_refl, Nat.add_zero, Nat.zero_add, if_true, if_false, Bool.false_eq_true, reduceCtorEq, Option.bind_some, Option.map_some, List.append_nil, List.nil_append, tt_9, tt_29, lit1, List.flatten_cons, List.flatten_nil, List.length_cons, List.length_nil, List.drop_zero, List.take_succ_cons, List.take_zero]
        refine ⟨⟨by omega, by omega, by omega⟩, ?_⟩
        refine hK _ ?_
        refine W.region tt_ok ?_
        simp only [exOps_nil, exOps_cons, exOp_eq, nx_eq, cur_eq, stepQ, ev, ofV, lk, putT, erA, inB, opt, bnd, req, ret, onQ, ap, binI, binG, binF, intF, thn_normal, true_and, and_self, Nat.reduceEqDiff, Nat.reduceLT, Nat.reduceAdd, if_true, if_false, reduceCtorEq, hwk2]
        refine hK3 _ (i + 2) 4 832 (by omega) (by omega) (by simp [Nm, lk]) ?_
        simp [ssI, hke, hlk2, ← hne, tbX, St.swap, tmMap, enMap, swp, AV.map, AV.mapL, Ent.map, Row.map, wk, leL, lk, nmT, nmE, nmH, AV.nmIn, AV.nmInL, Ent.nmIn, Row.nmIn]
        omega
    · obtain rfl : i = d := by omega
      have l1 : ¬ ((i : Nat) : Int) < (i : Nat) := by omega
      cases i with
      | zero => omega
      | succ i =>
        subst ht
        simp only [ssI, tbX]
        refine W.seqK fun K hK => W.regionK tt_ok ?_
        simp only [decide_false, exOps_nil, exOps_cons, exOp_eq, nx_eq, cur_eq, stepQ, ev, lk, putT, erA, inB, opt, bnd, req, ret, onQ, ap, binI, binG, binF, intF, true_and, and_self, Nat.reduceEqDiff, Nat.reduceLT, Nat.reduceAdd, if_true, if_false, reduceCtorEq, l1]
        refine hK _ ?_
        clear hK K
        refine W.seqK fun K hK => W.cond (b := false) (by simp only [ev, lk, Nat.reduceEqDiff, if_true, if_false, reduceCtorEq]) (fun h => absurd h (by simp)) (fun _ => W.exit ?_)
        simp only [thn_normal, thn_exit, inb_exit, if_true]
        clear hK K
        refine hKy _ ?_
        refine W.seqK fun K hK => W.regionK tt_ok ?_
        simp only [exOps_nil, exOps_cons, exOp_eq, nx_eq, cur_eq, stepQ, ev, ofV, lk, putT, erA, inB, opt, bnd, req, ret, onQ, ap, up, er, AV.isTup, AV.isAgg, ldP, ldE, ldC, ldS, Kd.agg, comps, szL, csize, takeI, takeC, dropC, stP, stE, stC, stS, and_true, true_and, and_self, Nat.reduceEqDiff, Nat.reduceLT, Nat.reduceLeDiff, Nat.reduceAdd, Nat.reduceSub, Nat.sub_self, Nat.le_refl, Nat.add_zero, Nat.zero_add, if_true, if_false, reduceCtorEq, Option.bind_some, Option.map_some, List.append_nil, List.nil_append, tt_23]
        refine hK _ ?_
        clear hK K
        refine W.ret ?_
        simp only [fin_ret, finB, resQ, resV, leL, AV.nmIn, AV.nmInL, entsIn, lk, opt, bnd, req, ret, onQ, AV.isTup, ldP, ldE, ldC, ldS, Kd.agg, comps, csize, takeI, takeC, dropC, and_true, true_and, and_self, Nat.reduceEqDiff, Nat.reduceLeDiff, Nat.reduceSub, Nat.sub_self, Nat.le_refl, if_true, if_false, reduceCtorEq, Option.bind_some, Option.map_some, tt_23]
        simp [cV, Nm, lk, Ent.nmIn, Row.nmIn, AV.nmIn, AV.nmInL]
end Go.Proofs.Ytbefcdgjainflaa
