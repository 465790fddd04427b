/- Prims: symbol's Keys. -/
import Derived.Test.YtbefcdgjainflaaHdB
-- TT 3 4 5 9 23 25 28 29 30 36 39 50 53 54 55 56 58 82 94
-- KIND 59 7 9 2
-- SIMP beq_self_eq_true
set_option linter.unusedVariables false
set_option linter.unusedSectionVars false
set_option linter.unusedSimpArgs false
namespace Go.Proofs.Ytbefcdgjainflaa
open Sx
variable [Inhabited Tabs]
set_option maxRecDepth 100000
set_option maxHeartbeats 4000000
def sK : ByteArray := { data := #[107, 101, 121] }
/-- The parts of the i-th key's term. -/
def kyP (k b : ByteArray) (i : Nat) : List ByteArray := [sK, strOf (numK ((i + 1 : Nat) : Int) 8), k, b]
/-- The table behind i keys, and their names. -/
def syT (T : Tms') (k b : ByteArray) : Nat → Tms'
  | 0 => T
  | i + 1 => tPut (syT T k b i) 4 (kyP k b i)
def syN (T : Tms') (k b : ByteArray) : Nat → List ByteArray
  | 0 => []
  | i + 1 => syN T k b i ++ [putN (encL (syT T k b i)) 4 (kyP k b i)]
theorem syN_len (T : Tms') (k b : ByteArray) : ∀ n, (syN T k b n).length = n
  | 0 => rfl
  | n + 1 => by rw [syN, List.length_append, syN_len T k b n]; rfl
theorem kyP_ok {k b : ByteArray} (hk : k.size ≤ 4000) (hb : b.size ≤ 4000) (i : Nat) : okP (kyP k b i) := by
  intro x hx
  simp only [kyP, List.mem_cons, List.not_mem_nil, or_false] at hx
  rcases hx with rfl | rfl | rfl | rfl
  · decide
  · rw [strOf_size]; have := numK_le ((i + 1 : Nat) : Int) 8; omega
  · exact hk
  · exact hb
theorem kyP_T {k b : ByteArray} (hk : k.size ≤ 4000) (hb : b.size ≤ 4000) (i : Nat) : okT 4 (kyP k b i) := ⟨by omega, by simp [kyP], by simp [kyP], kyP_ok hk hb i⟩
theorem syT_ne {T : Tms'} {k b : ByteArray} (hk : k.size ≤ 4000) (hb : b.size ≤ 4000) (i : Nat) : syT T k b (i + 1) ≠ [] := by
  rw [syT]
  by_cases h : syT T k b i = []
  · rw [h, putT_nil (kyP_ok hk hb i)]; simp
  · exact putT_ne h _ _
theorem syT_len (T : Tms') (k b : ByteArray) : ∀ i, (syT T k b i).length ≤ T.length + i
  | 0 => Nat.le_refl _
  | i + 1 => by
    have h1 := syT_len T k b i
    have h2 := putT_len (syT T k b i) 4 (kyP k b i)
    rw [syT]; omega
/-- One more key: Hash with a table's row named 3 before and 256 behind. -/
theorem sy_hash {T : Tms'} {k b : ByteArray} (hk : k.size ≤ 4000) (hb : b.size ≤ 4000) (hl : T.length < 900) (i : Nat) : FnR Try.prog G 61 [.ptr 0 0 0 1, .lstS (kyP k b i)] (tabS 3 T) (.str (putN (encL T) 4 (kyP k b i))) (tbX 256 (encL (tPut T 4 (kyP k b i)))) := by
  have hp := kyP_ok hk hb i
  by_cases hT : T = []
  · subst hT
    rw [tabS_nil, putN_nil hp, putT_nil hp]
    exact mv0 992 256 (by omega) (by omega) (by omega) rfl (hashT_01 _ (by simp [kyP]) hp)
  · rw [tabS_ne 3 hT, ← putT_enc]
    exact hashXY _ (by simp [kyP]) _ (encL_ne hT) (by rw [encL_len]; omega) 3 256 (by omega) (by omega) (by omega) (by omega)
theorem sy_hash5 {T : Tms'} {k b : ByteArray} (hT : T ≠ []) (hk : k.size ≤ 4000) (hb : b.size ≤ 4000) (hl : T.length < 900) (i : Nat) : FnR Try.prog G 61 [.ptr 0 0 0 1, .lstS (kyP k b i)] (tbX 5 (encL T)) (.str (putN (encL T) 4 (kyP k b i))) (tbX 256 (encL (tPut T 4 (kyP k b i)))) := by
  rw [← putT_enc]
  exact hashXY _ (by simp [kyP]) _ (encL_ne hT) (by rw [encL_len]; omega) 5 256 (by omega) (by omega) (by omega) (by omega)
def syI (T : Tms') (k b : ByteArray) (n : Nat) (i : Nat) : St :=
  ⟨[(1, .str k), (2, .str b), (4, .ptr 16 0 0 1), (9, match i with | 0 => .nils | i + 1 => .sl 4 1 0 (i + 1)), (18, .int .i64 (n : Nat)), (19, .int .i64 (i : Nat))], (16, .obj 55 (.agg [.ptr 0 0 0 1])) :: (match i with | 0 => tabS 3 T | i + 1 => (4, .vec 9 (.strs (syN T k b (i + 1)))) :: tbX 5 (encL (syT T k b (i + 1)))), 64, 40⟩
theorem syT_ok {T : Tms'} (hok : okTs T) {k b : ByteArray} (hk : k.size ≤ 4000) (hb : b.size ≤ 4000) : ∀ i, okTs (syT T k b i)
  | 0 => hok
  | i + 1 => putT_ok (syT_ok hok hk hb i) (by omega) (by simp [kyP]) (by simp [kyP])
theorem sykeys_fn (T : Tms') (k b : ByteArray) (hk : k.size ≤ 4000) (hb : b.size ≤ 4000) (hok : okTs T) (hl : T.length < 800) (n : Nat) (h1 : 1 ≤ n) (h3 : n ≤ 3) :
    FnR Try.prog G 59 [.agg [.ptr 0 0 0 1], .str k, .str b, .int .i64 (n : Nat)] (tabS 3 T) (.sl 4 1 0 n) ((4, .vec 9 (.strs (syN T k b n))) :: tbX 5 (encL (syT T k b n))) := by
  have hokS := fun i => syT_ok hok hk hb i
  have hn1 : ¬ ((n : Nat) : Int) < 1 := by omega
  have hn3 : ¬ (3 : Int) < ((n : Nat) : Int) := by omega
  by_cases hT : T = []
  · subst hT
    rw [tabS_nil]
    simp only [tabE]
    refine FnR.of_walk (m := 40) (n0 := 16) tt_ok Try.func59 rfl rfl (by simp) (by simp [nmH]) ?_
    rw [show Try.f59.results.toList = [.tmp 8] from rfl]
    refine W.seqK fun K hK => W.regionK tt_ok ?_
    simp only [exOps_nil, exOps_cons, exOp_eq, nx_eq, cur_eq, stepQ, ev, ofV, lk, parT, putT, erA, inB, opt, req, ret, onQ, ap, up, er, AV.isTup, true_and, and_self, Nat.reduceEqDiff, Nat.reduceLT, Nat.reduceAdd, Nat.zero_add, if_true, if_false, reduceCtorEq]
    refine hK _ ?_
    clear hK K
    refine W.seqK fun Kx hKx => ?_
    refine W.seqK fun K hK => W.regionK tt_ok ?_
    simp only [↓gFF, ↓nFF, decide_false, exOps_nil, exOps_cons, exOp_eq, nx_eq, cur_eq, stepQ, ev, ofV, lk, putT, erA, inB, opt, bnd, req, ret, onQ, ap, binI, binG, binF, intF, pickF, and_true, true_and, and_self, Nat.reduceEqDiff, Nat.reduceLT, Nat.reduceAdd, if_true, if_false, reduceCtorEq, List.getElem?_cons_zero, List.getElem?_cons_succ, Option.bind_some, hn1, hn3]
    refine hK _ ?_
    clear hK K
    refine W.cond (b := false) (by simp only [ev, lk, Nat.reduceEqDiff, if_true, if_false, reduceCtorEq]) (fun h => absurd h (by simp)) (fun _ => W.skip ?_)
    simp only [thn_normal]
    refine hKx _ ?_
    refine W.seqK fun K hK => W.regionK tt_ok ?_
    simp only [exOps_nil, exOps_cons, exOp_eq, nx_eq, cur_eq, stepQ, ev, ofV, putT, erA, inB, opt, ret, onQ, ap, true_and, Nat.reduceEqDiff, Nat.reduceLT, Nat.reduceAdd, if_false, reduceCtorEq]
    refine hK _ ?_
    clear hK K
    refine W.seqK fun Ky hKy => ?_
    refine W.seqK fun K hK => W.regionK tt_ok ?_
    simp only [exOps_nil, exOps_cons, exOp_eq, nx_eq, cur_eq, stepQ, ev, ofV, lk, putT, erA, inB, opt, ret, onQ, ap, true_and, Nat.reduceEqDiff, Nat.reduceLT, Nat.reduceAdd, if_true, if_false, reduceCtorEq]
    refine hK _ ?_
    clear hK K
    refine W.blockK ?_
    refine W.loopS (fun i : Nat => i ≤ n) (syI [] k b n) (fun i => n - i) 0 (by simp) (by simp [syI, tabS_nil, tabE, wk, leL, lk, nmT, nmE, nmH, AV.nmIn, AV.nmInL, Ent.nmIn]) ?_
    intro i hi K3 hK3
    by_cases hlt : i < n
    · cases i with
      | zero =>
        have l1 : ((0 : Nat) : Int) < (n : Nat) := by omega
        have cn := num_fn (((0 + 1 : Nat) : Nat) : Int) (by omega)
        have hwk : IntKind.i64.wrap (((0 : Nat) : Int) + 1) = ((0 + 1 : Nat) : Int) := wrap_up (0) (by omega)
        have hw1 : IntKind.i64.wrap (((0 : Nat) : Int) + 1) = ((0 + 1 : Nat) : Int) := hwk
        have hw2 : IntKind.u64.wrap (((0 + 1 : Nat) : Nat) : Int) = ((0 + 1 : Nat) : Int) := by rw [IntKind.wrap_u64]; omega
        have hpp := kyP_T hk hb (0)
        have ch := sy_hash (T := []) hk hb (by simp) 0
        have hch : tPut [] 4 (kyP k b 0) = syT [] k b (0 + 1) := rfl
        rw [hch] at ch
        obtain ⟨j, hj, _⟩ := put_at okTs_nil hpp
        have hne : ((putN (encL []) 4 (kyP k b 0)).toList == ({ data := #[] } : ByteArray).toList) = false := by rw [hj, toL_beq, decide_eq_false_iff_not]; exact nm_ne _
        have hsn : syN [] k b (0 + 1) = [putN (encL []) 4 (kyP k b 0)] := rfl
        generalize putN (encL []) 4 (kyP k b 0) = r at *
        simp only [tabS_nil, tabE, tbX, kyP, sK] at ch
        simp only [syI, tabS_nil, tabE, tbX]
        refine W.seqK fun K hK => W.regionK tt_ok ?_
        simp only [decide_true, exOps_nil, exOps_cons, exOp_eq, nx_eq, cur_eq, stepQ, ev, lk, putT, erA, inB, opt, bnd, req, ret, onQ, ap, binI, binG, binF, intF, true_and, and_self, Nat.reduceEqDiff, Nat.reduceLT, Nat.reduceAdd, if_true, if_false, l1]
        refine hK _ ?_
        clear hK K
        refine W.seqK fun K hK => W.cond (b := true) (by simp only [ev, lk, Nat.reduceEqDiff, if_true, if_false]) (fun _ => W.skip ?_) (fun h => absurd h (by simp))
        rw [thn_normal]
        refine hK _ ?_
        clear hK K
        refine W.seqK fun K hK => W.blockK ?_
        refine W.seqK fun K hK => W.regionK tt_ok ?_
        simp only [exOps_nil, exOps_cons, exOp_eq, nx_eq, cur_eq, stepQ, ev, lk, putT, erA, inB, opt, ret, onQ, ap, true_and, Nat.reduceEqDiff, Nat.reduceLT, Nat.reduceAdd, if_true, if_false]
        refine hK _ ?_
        clear hK K
        refine W.seqK fun K hK => W.drawK [⟨0, true, [], false⟩, ⟨0, true, [0], false⟩, ⟨0, false, [], false⟩, ⟨0, false, [2], false⟩, ⟨0, false, [2, 3], false⟩, ⟨0, false, [2, 3, 4], false⟩, ⟨0, false, [], false⟩, ⟨0, false, [], false⟩, ⟨1, false, [2, 3, 4, 5, 6, 7], false⟩, ⟨2, false, [0, 1, 2, 3, 4, 5, 6, 7, 8], false⟩, ⟨0, false, [0, 1, 2, 3, 4, 5, 6, 7, 8, 9], false⟩] mix tt_ok (by kernel_rfl) ?_
        simp only [decide_true, Bool.or_true, Bool.or_false, List.contains_cons, List.contains_nil, exOp_eq, exCall_eq, exD_cons, nxD_eq, cur_eq, flI, flE, ownB, evL, stepQ, ev, ofV, lk, putT, erA, inB, opt, bnd, req, ret, onQ, ap, binI, binG, binF, intF, ldP, ldE, ldC, ldS, Kd.agg, comps, csize, takeI, takeC, dropC, fldF, cvQ, true_and, and_self, Nat.reduceEqDiff, Nat.reduceLT, Nat.reduceLeDiff, Nat.reduceAdd, Nat.reduceSub, Nat.reduceDiv, Nat.sub_self, Nat.le_refl, Nat.add_zero, Nat.zero_add, if_true, if_false, Bool.false_eq_true, reduceCtorEq, ne_eq, not_false_eq_true, List.getElem?_cons_zero, Option.bind_some, Option.map_some, tt_3, tt_50, tt_55, tt_94, beq_self_eq_true, hw1, hw2]
        refine CallK.pure _ _ cn call62 (by simp only [AV.nmIn, bnd, req, ret, onQ, AV.isTup, isTupL, true_and, and_self, Nat.zero_add, Bool.false_eq_true, List.append_nil, vw.vwL, vw, AV.free, Bool.or_self]; all_goals (and_intros <;> first | exact AV.subL_refl _ | omega | (simp [AV.sub]; done) | rfl | (simp [AV.subL_refl]; done) | (simp; exact AV.subL_refl _))) ?_
        simp only [exOp_eq, exCall_eq, exD_cons, nxD_eq, cur_eq, flI, ownB, ownL, evL, evP, stepQ, ev, ofV, lk, putT, erA, inB, opt, bnd, req, ret, onQ, ap, up, er, AV.isTup, AV.isAgg, Kd.agg, comps, szL, csize, takeI, takeC, dropC, stC, stS, Row.len, Row.sz, bldA, bslQ, zeroCs, cellsRow, strsOf, and_true, true_and, and_self, and_false, Nat.reduceEqDiff, Nat.reduceLT, Nat.reduceLeDiff, Nat.reduceAdd, Nat.reduceSub, Nat.reduceMul, Nat.sub_self, Nat.le_refl, Nat.add_zero, Nat.zero_add, if_true, if_false, Bool.false_eq_true, reduceCtorEq, Option.bind_some, Option.map_some, List.append_nil, List.nil_append, List.cons_append, tt_9, tt_29, lit4, List.flatten_cons, List.flatten_nil, List.length_cons, List.length_nil]
        refine CallK.with [(0, .obj 58 (.agg [.mp 1, .mp 2, .nils])), (1, .mset (.strs [])), (2, .mset (.strs []))] [(0, .obj 58 (.agg [.mp 1, .mp 2, .sl 256 1 0 (encL (syT [] k b (0 + 1))).length])), (1, .mset (.strs (nmL (encL (syT [] k b (0 + 1)))))), (2, .mset (.strs (tmL (encL (syT [] k b (0 + 1)))))), (256, .vec 9 (.strs (alL (encL (syT [] k b (0 + 1))))))] _ _ ch call61 (by simp only [Bool.or_true, Bool.or_false, AV.nmIn, lk, opt, bnd, req, ret, onQ, AV.isTup, isTupL, Ent.row, and_true, true_and, and_self, Nat.reduceEqDiff, Nat.zero_add, if_true, if_false, reduceCtorEq, forall_const, List.append_nil, vw.vwL, vw, viewR, AV.free, Ent.row, Bool.or_self]; all_goals (and_intros <;> first | exact AV.subL_refl _ | omega | (simp [AV.sub, entsFree, Ent.free, Row.free]; done) | rfl | (simp [AV.subL_refl]; done))) (by simp [leL, lk]) (by intro n hn; first | (left; revert hn; simp [Nm, lk]; done) | (right; revert hn; simp only [Nm, lk]; split <;> simp <;> omega) | (by_cases h1 : Nm [(0, .obj 58 (.agg [.mp 1, .mp 2, .nils])), (1, .mset (.strs [])), (2, .mset (.strs []))] n; exact .inl h1; right; revert hn h1; simp only [Nm, lk]; split <;> (try split) <;> (try split) <;> (try split) <;> (try simp) <;> (try omega))) (by simp [entsIn, Ent.nmIn, AV.nmIn, AV.nmInL, Nm, lk]) ?_
        simp only [callDel, exOp_eq, exD_nil, exD_cons, nxD_eq, cur_eq, flI, ownB, stepQ, ev, lk, putT, erA, inB, opt, ret, onQ, ap, up, er, true_and, Nat.reduceEqDiff, Nat.reduceLT, Nat.reduceAdd, Nat.zero_add, if_true, if_false, reduceCtorEq, List.nil_append, List.cons_append, List.map_cons, List.map_nil, List.reverse_cons, List.reverse_nil]
        refine hK _ ?_
        clear hK K
        refine W.swap 5 256 (by simp [Nm, lk]) ?_
        simp [St.swap, tmMap, enMap, swp, AV.map, AV.mapL, Ent.map, Row.map]
        refine W.seqK fun Kn hKn => ?_
        refine W.seqK fun K hK => W.regionK tt_ok ?_
        simp only [exOps_nil, exOps_cons, exOp_eq, nx_eq, cur_eq, stepQ, ev, ofV, lk, putT, erA, inB, opt, bnd, req, ret, onQ, ap, binI, binG, binF, strF, true_and, and_self, Nat.reduceEqDiff, Nat.reduceLT, Nat.reduceAdd, if_true, if_false, hne]
        refine hK _ ?_
        clear hK K
        refine W.cond (b := false) (by simp only [ev, lk, Nat.reduceEqDiff, if_true, if_false]) (fun h => absurd h (by simp)) (fun _ => W.skip ?_)
        simp only [thn_normal]
        refine hKn _ ?_
        refine W.region tt_ok ?_
        simp only [exOps_nil, exOps_cons, exOp_eq, exCall_eq, nx_eq, cur_eq, curV_eq, evL, evP, stepQ, ev, lk, putT, erA, inB, opt, bnd, req, ret, onQ, ap, up, er, AV.isTup, AV.isAgg, Kd.agg, comps, szL, csize, takeI, takeC, dropC, stC, stS, bltQ, bltV, appQ, appV, srcQ, Row.len, Row.sz, Row.take, Row.drop, Ent.row, Row.lst, bldA, bslQ, zeroCs, cellsRow, strsOf, thn_normal, inb_normal, and_true, true_and, and_self, and_false, Nat.reduceEqDiff, Nat.reduceLT, Nat.reduceLeDiff, Nat.reduceAdd, Nat.reduceSub, Nat.reduceMul, Nat.sub_self, Nat.le_refl, Nat.add_zero, Nat.zero_add, if_true, if_false, Bool.false_eq_true, reduceCtorEq, ne_eq, not_false_eq_true, Option.bind_some, Option.map_some, List.append_nil, List.nil_append, tt_9, tt_29, lit1, List.flatten_cons, List.flatten_nil, List.length_cons, List.length_nil, List.drop_zero, List.take_succ_cons, List.take_zero]
        refine .inl ?_
        refine hK _ ?_
        have hw0 : IntKind.i64.wrap (0 + 1) = 1 := by decide
        refine W.region tt_ok ?_
        simp only [exOps_nil, exOps_cons, exOp_eq, nx_eq, cur_eq, stepQ, ev, ofV, lk, putT, erA, inB, opt, bnd, req, ret, onQ, ap, binI, binG, binF, intF, thn_normal, true_and, and_self, Nat.reduceEqDiff, Nat.reduceLT, Nat.reduceAdd, if_true, if_false, hw0]
        refine hK3 _ 1 4 368 (by omega) (by omega) (by simp [Nm, lk]) ?_
        simp at hsn
        simp [syI, hsn, tbX, St.swap, tmMap, enMap, swp, AV.map, AV.mapL, Ent.map, Row.map, wk, leL, lk, nmT, nmE, nmH, AV.nmIn, AV.nmInL, Ent.nmIn, Row.nmIn]
      | succ i => 
        have l1 : ((i + 1 : Nat) : Int) < (n : Nat) := by omega
        have cn := num_fn (((i + 1 + 1 : Nat) : Nat) : Int) (by omega)
        have hwk : IntKind.i64.wrap (((i + 1 : Nat) : Int) + 1) = ((i + 1 + 1 : Nat) : Int) := wrap_up (i + 1) (by omega)
        have hw1 : IntKind.i64.wrap (((i + 1 : Nat) : Int) + 1) = ((i + 1 + 1 : Nat) : Int) := hwk
        have hw2 : IntKind.u64.wrap (((i + 1 + 1 : Nat) : Nat) : Int) = ((i + 1 + 1 : Nat) : Int) := by rw [IntKind.wrap_u64]; omega
        have hpp := kyP_T hk hb (i + 1)
        have hTi := syT_ne (T := []) hk hb i
        have hli := syT_len [] k b (i + 1)
        have ch := sy_hash5 hTi hk hb (by first | omega | (simp at hli; omega)) (i + 1)
        have hch : tPut (syT [] k b (i + 1)) 4 (kyP k b (i + 1)) = syT [] k b (i + 1 + 1) := rfl
        rw [hch] at ch
        obtain ⟨j, hj, _⟩ := put_at (hokS (i + 1)) hpp
        have hne : ((putN (encL (syT [] k b (i + 1))) 4 (kyP k b (i + 1))).toList == ({ data := #[] } : ByteArray).toList) = false := by rw [hj, toL_beq, decide_eq_false_iff_not]; exact nm_ne _
        have hsl := syN_len [] k b (i + 1)
        have hsn : syN [] k b (i + 1 + 1) = List.take (i + 1) (syN [] k b (i + 1)) ++ [putN (encL (syT [] k b (i + 1))) 4 (kyP k b (i + 1))] := by rw [List.take_of_length_le (by omega)]; rfl
        generalize putN (encL (syT [] k b (i + 1))) 4 (kyP k b (i + 1)) = r at *
        simp only [tbX, kyP, sK] at ch
        simp only [syI, tbX]
        refine W.seqK fun K hK => W.regionK tt_ok ?_
        simp only [decide_true, exOps_nil, exOps_cons, exOp_eq, nx_eq, cur_eq, stepQ, ev, lk, putT, erA, inB, opt, bnd, req, ret, onQ, ap, binI, binG, binF, intF, true_and, and_self, Nat.reduceEqDiff, Nat.reduceLT, Nat.reduceAdd, if_true, if_false, l1]
        refine hK _ ?_
        clear hK K
        refine W.seqK fun K hK => W.cond (b := true) (by simp only [ev, lk, Nat.reduceEqDiff, if_true, if_false]) (fun _ => W.skip ?_) (fun h => absurd h (by simp))
        rw [thn_normal]
        refine hK _ ?_
        clear hK K
        refine W.seqK fun K hK => W.blockK ?_
        refine W.seqK fun K hK => W.regionK tt_ok ?_
        simp only [exOps_nil, exOps_cons, exOp_eq, nx_eq, cur_eq, stepQ, ev, lk, putT, erA, inB, opt, ret, onQ, ap, true_and, Nat.reduceEqDiff, Nat.reduceLT, Nat.reduceAdd, if_true, if_false]
        refine hK _ ?_
        clear hK K
        refine W.seqK fun K hK => W.drawK [⟨0, true, [], false⟩, ⟨0, true, [0], false⟩, ⟨0, false, [], false⟩, ⟨0, false, [2], false⟩, ⟨0, false, [2, 3], false⟩, ⟨0, false, [2, 3, 4], false⟩, ⟨0, false, [], false⟩, ⟨0, false, [], false⟩, ⟨1, false, [2, 3, 4, 5, 6, 7], false⟩, ⟨2, false, [0, 1, 2, 3, 4, 5, 6, 7, 8], false⟩, ⟨0, false, [0, 1, 2, 3, 4, 5, 6, 7, 8, 9], false⟩] mix tt_ok (by kernel_rfl) ?_
        simp only [decide_true, Bool.or_true, Bool.or_false, List.contains_cons, List.contains_nil, exOp_eq, exCall_eq, exD_cons, nxD_eq, cur_eq, flI, flE, ownB, evL, stepQ, ev, ofV, lk, putT, erA, inB, opt, bnd, req, ret, onQ, ap, binI, binG, binF, intF, ldP, ldE, ldC, ldS, Kd.agg, comps, csize, takeI, takeC, dropC, fldF, cvQ, true_and, and_self, Nat.reduceEqDiff, Nat.reduceLT, Nat.reduceLeDiff, Nat.reduceAdd, Nat.reduceSub, Nat.reduceDiv, Nat.sub_self, Nat.le_refl, Nat.add_zero, if_true, if_false, Bool.false_eq_true, reduceCtorEq, ne_eq, not_false_eq_true, List.getElem?_cons_zero, Option.bind_some, Option.map_some, tt_3, tt_50, tt_55, tt_94, beq_self_eq_true, hw1, hw2]
        refine CallK.pure _ _ cn call62 (by simp only [AV.nmIn, bnd, req, ret, onQ, AV.isTup, isTupL, true_and, and_self, Bool.false_eq_true, List.append_nil, vw.vwL, vw, AV.free, Bool.or_self]; all_goals (and_intros <;> first | exact AV.subL_refl _ | omega | (simp [AV.sub]; done) | rfl | (simp [AV.subL_refl]; done) | (simp; exact AV.subL_refl _))) ?_
        simp only [exOp_eq, exCall_eq, exD_cons, nxD_eq, cur_eq, flI, ownB, ownL, evL, evP, stepQ, ev, ofV, lk, putT, erA, inB, opt, bnd, req, ret, onQ, ap, up, er, AV.isTup, AV.isAgg, Kd.agg, comps, szL, csize, takeI, takeC, dropC, stC, stS, Row.len, Row.sz, bldA, bslQ, zeroCs, cellsRow, strsOf, and_true, true_and, and_self, and_false, Nat.reduceEqDiff, Nat.reduceLT, Nat.reduceLeDiff, Nat.reduceAdd, Nat.reduceSub, Nat.reduceMul, Nat.sub_self, Nat.le_refl, Nat.add_zero, Nat.zero_add, if_true, if_false, Bool.false_eq_true, reduceCtorEq, Option.bind_some, Option.map_some, List.append_nil, List.nil_append, List.cons_append, tt_9, tt_29, lit4, List.flatten_cons, List.flatten_nil, List.length_cons, List.length_nil]
        refine CallK.with [(0, .obj 58 (.agg [.mp 1, .mp 2, .sl 5 1 0 (encL (syT [] k b (i + 1))).length])), (1, .mset (.strs (nmL (encL (syT [] k b (i + 1)))))), (2, .mset (.strs (tmL (encL (syT [] k b (i + 1)))))), (5, .vec 9 (.strs (alL (encL (syT [] k b (i + 1))))))] [(0, .obj 58 (.agg [.mp 1, .mp 2, .sl 256 1 0 (encL (syT [] k b (i + 1 + 1))).length])), (1, .mset (.strs (nmL (encL (syT [] k b (i + 1 + 1)))))), (2, .mset (.strs (tmL (encL (syT [] k b (i + 1 + 1)))))), (256, .vec 9 (.strs (alL (encL (syT [] k b (i + 1 + 1))))))] _ _ ch call61 (by simp only [Bool.or_true, Bool.or_false, AV.nmIn, lk, opt, bnd, req, ret, onQ, AV.isTup, isTupL, Ent.row, and_true, true_and, and_self, Nat.reduceEqDiff, Nat.zero_add, if_true, if_false, reduceCtorEq, forall_const, List.append_nil, vw.vwL, vw, viewR, AV.free, Ent.row, Bool.or_self]; all_goals (and_intros <;> first | exact AV.subL_refl _ | omega | (simp [AV.sub, entsFree, Ent.free, Row.free]; done) | rfl | (simp [AV.subL_refl]; done))) (by simp [leL, lk]) (by intro n hn; first | (left; revert hn; simp [Nm, lk]; done) | (right; revert hn; simp only [Nm, lk]; split <;> simp <;> omega) | (by_cases h1 : Nm [(0, .obj 58 (.agg [.mp 1, .mp 2, .sl 5 1 0 (encL (syT [] k b (i + 1))).length])), (1, .mset (.strs (nmL (encL (syT [] k b (i + 1)))))), (2, .mset (.strs (tmL (encL (syT [] k b (i + 1)))))), (5, .vec 9 (.strs (alL (encL (syT [] k b (i + 1))))))] n; exact .inl h1; right; revert hn h1; simp only [Nm, lk]; split <;> (try split) <;> (try split) <;> (try split) <;> (try simp) <;> (try omega))) (by simp [entsIn, Ent.nmIn, Row.nmIn, AV.nmIn, AV.nmInL, Nm, lk]) ?_
        simp only [callDel, exOp_eq, exD_nil, exD_cons, nxD_eq, cur_eq, flI, ownB, stepQ, ev, lk, putT, erA, inB, opt, ret, onQ, ap, up, er, true_and, Nat.reduceEqDiff, Nat.reduceLT, Nat.reduceAdd, if_true, if_false, reduceCtorEq, List.nil_append, List.cons_append, List.map_cons, List.map_nil, List.reverse_cons, List.reverse_nil]
        refine hK _ ?_
        clear hK K
        refine W.swap 5 256 (by simp [Nm, lk]) ?_
        simp [St.swap, tmMap, enMap, swp, AV.map, AV.mapL, Ent.map, Row.map]
        refine W.seqK fun Kn hKn => ?_
        refine W.seqK fun K hK => W.regionK tt_ok ?_
        simp only [exOps_nil, exOps_cons, exOp_eq, nx_eq, cur_eq, stepQ, ev, ofV, lk, putT, erA, inB, opt, bnd, req, ret, onQ, ap, binI, binG, binF, strF, true_and, and_self, Nat.reduceEqDiff, Nat.reduceLT, Nat.reduceAdd, if_true, if_false, hne]
        refine hK _ ?_
        clear hK K
        refine W.cond (b := false) (by simp only [ev, lk, Nat.reduceEqDiff, if_true, if_false]) (fun h => absurd h (by simp)) (fun _ => W.skip ?_)
        simp only [thn_normal]
        refine hKn _ ?_
        refine W.region tt_ok ?_
        simp only [exOps_nil, exOps_cons, exOp_eq, exCall_eq, nx_eq, cur_eq, evL, evP, stepQ, ev, lk, putT, erA, inB, opt, bnd, req, ret, onQ, ap, up, er, AV.isTup, AV.isAgg, Kd.agg, comps, szL, csize, takeI, takeC, dropC, stC, stS, bltQ, bltV, appR, appQ, appV, srcQ, Row.len, Row.sz, Row.take, Row.drop, Row.app, Ent.row, bldA, bslQ, zeroCs, cellsRow, strsOf, thn_normal, inb_normal, and_true, true_and, and_self, and_false, or_false, Nat.reduceEqDiff, Nat.reduceLT, Nat.reduceLeDiff, Nat.reduceAdd, Nat.reduceSub, Nat.reduceMul, Nat.sub_self, Nat.le_refl, Nat.add_zero, Nat.zero_add, if_true, if_false, Bool.false_eq_true, reduceCtorEq, Option.bind_some, Option.map_some, List.append_nil, List.nil_append, tt_9, tt_29, lit1, List.flatten_cons, List.flatten_nil, List.length_cons, List.length_nil, List.drop_zero, List.take_succ_cons, List.take_zero]
        refine ⟨⟨by omega, by omega, by omega⟩, ?_⟩
        refine hK _ ?_
        have hwk2 : IntKind.i64.wrap ((i : Int) + 1 + 1) = (i : Int) + 2 := by rw [IntKind.wrap_i64]; omega
        refine W.region tt_ok ?_
        simp only [exOps_nil, exOps_cons, exOp_eq, nx_eq, cur_eq, stepQ, ev, ofV, lk, putT, erA, inB, opt, bnd, req, ret, onQ, ap, binI, binG, binF, intF, thn_normal, true_and, and_self, Nat.reduceEqDiff, Nat.reduceLT, Nat.reduceAdd, if_true, if_false, hwk2]
        refine hK3 _ (i + 2) 4 368 (by omega) (by omega) (by simp [Nm, lk]) ?_
        simp [syI, hsn, tbX, St.swap, tmMap, enMap, swp, AV.map, AV.mapL, Ent.map, Row.map, wk, leL, lk, nmT, nmE, nmH, AV.nmIn, AV.nmInL, Ent.nmIn, Row.nmIn]
    · obtain rfl : i = n := by omega
      have l1 : ¬ ((i : Nat) : Int) < (i : Nat) := by omega
      cases i with
      | zero => omega
      | succ i =>
        simp only [syI, tbX]
        refine W.seqK fun K hK => W.regionK tt_ok ?_
        simp only [decide_false, exOps_nil, exOps_cons, exOp_eq, nx_eq, cur_eq, stepQ, ev, lk, putT, erA, inB, opt, bnd, req, ret, onQ, ap, binI, binG, binF, intF, true_and, and_self, Nat.reduceEqDiff, Nat.reduceLT, Nat.reduceAdd, if_true, if_false, l1]
        refine hK _ ?_
        clear hK K
        refine W.seqK fun K hK => W.cond (b := false) (by simp only [ev, lk, Nat.reduceEqDiff, if_true, if_false]) (fun h => absurd h (by simp)) (fun _ => W.exit ?_)
        simp only [thn_normal, thn_exit, inb_exit, if_true]
        clear hK K
        refine hKy _ ?_
        refine W.seqK fun K hK => W.regionK tt_ok ?_
        simp only [exOps_nil, exOps_cons, exOp_eq, nx_eq, cur_eq, stepQ, ev, lk, putT, erA, inB, opt, ret, onQ, ap, true_and, Nat.reduceEqDiff, Nat.reduceLT, Nat.reduceAdd, if_true, if_false]
        refine hK _ ?_
        clear hK K
        refine W.ret ?_
        simp only [fin_ret, finB, resQ, resV, leL, AV.nmIn, entsIn, lk, opt, bnd, req, ret, onQ, AV.isTup, true_and, and_self, Nat.reduceEqDiff, if_true, if_false, reduceCtorEq]
        simp [tbX, leL, Nm, lk, entsIn, Ent.nmIn, Row.nmIn, AV.nmIn, AV.nmInL]
  · rw [tabS_ne 3 hT]
    simp only [tbX]
    refine FnR.of_walk (m := 40) (n0 := 16) tt_ok Try.func59 rfl rfl (by simp) (by simp [nmH]) ?_
    rw [show Try.f59.results.toList = [.tmp 8] from rfl]
    refine W.seqK fun K hK => W.regionK tt_ok ?_
    simp only [exOps_nil, exOps_cons, exOp_eq, nx_eq, cur_eq, stepQ, ev, ofV, lk, parT, putT, erA, inB, opt, req, ret, onQ, ap, up, er, AV.isTup, true_and, and_self, Nat.reduceEqDiff, Nat.reduceLT, Nat.reduceAdd, Nat.zero_add, if_true, if_false, reduceCtorEq]
    refine hK _ ?_
    clear hK K
    refine W.seqK fun Kx hKx => ?_
    refine W.seqK fun K hK => W.regionK tt_ok ?_
    simp only [↓gFF, ↓nFF, decide_false, exOps_nil, exOps_cons, exOp_eq, nx_eq, cur_eq, stepQ, ev, ofV, lk, putT, erA, inB, opt, bnd, req, ret, onQ, ap, binI, binG, binF, intF, pickF, and_true, true_and, and_self, Nat.reduceEqDiff, Nat.reduceLT, Nat.reduceAdd, if_true, if_false, reduceCtorEq, List.getElem?_cons_zero, List.getElem?_cons_succ, Option.bind_some, hn1, hn3]
    refine hK _ ?_
    clear hK K
    refine W.cond (b := false) (by simp only [ev, lk, Nat.reduceEqDiff, if_true, if_false, reduceCtorEq]) (fun h => absurd h (by simp)) (fun _ => W.skip ?_)
    simp only [thn_normal]
    refine hKx _ ?_
    refine W.seqK fun K hK => W.regionK tt_ok ?_
    simp only [exOps_nil, exOps_cons, exOp_eq, nx_eq, cur_eq, stepQ, ev, ofV, putT, erA, inB, opt, ret, onQ, ap, true_and, Nat.reduceEqDiff, Nat.reduceLT, Nat.reduceAdd, if_false, reduceCtorEq]
    refine hK _ ?_
    clear hK K
    refine W.seqK fun Ky hKy => ?_
    refine W.seqK fun K hK => W.regionK tt_ok ?_
    simp only [exOps_nil, exOps_cons, exOp_eq, nx_eq, cur_eq, stepQ, ev, ofV, lk, putT, erA, inB, opt, ret, onQ, ap, true_and, Nat.reduceEqDiff, Nat.reduceLT, Nat.reduceAdd, if_true, if_false, reduceCtorEq]
    refine hK _ ?_
    clear hK K
    refine W.blockK ?_
    refine W.loopS (fun i : Nat => i ≤ n) (syI T k b n) (fun i => n - i) 0 (by simp) (by simp [syI, tabS_ne 3 hT, tbX, wk, leL, lk, nmT, nmE, nmH, AV.nmIn, AV.nmInL, Ent.nmIn, Row.nmIn]) ?_
    intro i hi K3 hK3
    by_cases hlt : i < n
    · cases i with
      | zero =>
        have l1 : ((0 : Nat) : Int) < (n : Nat) := by omega
        have cn := num_fn (((0 + 1 : Nat) : Nat) : Int) (by omega)
        have hwk : IntKind.i64.wrap (((0 : Nat) : Int) + 1) = ((0 + 1 : Nat) : Int) := wrap_up (0) (by omega)
        have hw1 : IntKind.i64.wrap (((0 : Nat) : Int) + 1) = ((0 + 1 : Nat) : Int) := hwk
        have hw2 : IntKind.u64.wrap (((0 + 1 : Nat) : Nat) : Int) = ((0 + 1 : Nat) : Int) := by rw [IntKind.wrap_u64]; omega
        have hpp := kyP_T hk hb (0)
        have ch := sy_hash (T := T) hk hb (by omega) 0
        have hch : tPut T 4 (kyP k b 0) = syT T k b (0 + 1) := rfl
        rw [hch] at ch
        obtain ⟨j, hj, _⟩ := put_at hok hpp
        have hne : ((putN (encL T) 4 (kyP k b 0)).toList == ({ data := #[] } : ByteArray).toList) = false := by rw [hj, toL_beq, decide_eq_false_iff_not]; exact nm_ne _
        have hsn : syN T k b (0 + 1) = [putN (encL T) 4 (kyP k b 0)] := rfl
        generalize putN (encL T) 4 (kyP k b 0) = r at *
        simp only [tabS_ne 3 hT, tbX, kyP, sK] at ch
        simp only [syI, tabS_ne 3 hT, tbX]
        refine W.seqK fun K hK => W.regionK tt_ok ?_
        simp only [decide_true, exOps_nil, exOps_cons, exOp_eq, nx_eq, cur_eq, stepQ, ev, lk, putT, erA, inB, opt, bnd, req, ret, onQ, ap, binI, binG, binF, intF, true_and, and_self, Nat.reduceEqDiff, Nat.reduceLT, Nat.reduceAdd, if_true, if_false, l1]
        refine hK _ ?_
        clear hK K
        refine W.seqK fun K hK => W.cond (b := true) (by simp only [ev, lk, Nat.reduceEqDiff, if_true, if_false]) (fun _ => W.skip ?_) (fun h => absurd h (by simp))
        rw [thn_normal]
        refine hK _ ?_
        clear hK K
        refine W.seqK fun K hK => W.blockK ?_
        refine W.seqK fun K hK => W.regionK tt_ok ?_
        simp only [exOps_nil, exOps_cons, exOp_eq, nx_eq, cur_eq, stepQ, ev, lk, putT, erA, inB, opt, ret, onQ, ap, true_and, Nat.reduceEqDiff, Nat.reduceLT, Nat.reduceAdd, if_true, if_false]
        refine hK _ ?_
        clear hK K
        refine W.seqK fun K hK => W.drawK [⟨0, true, [], false⟩, ⟨0, true, [0], false⟩, ⟨0, false, [], false⟩, ⟨0, false, [2], false⟩, ⟨0, false, [2, 3], false⟩, ⟨0, false, [2, 3, 4], false⟩, ⟨0, false, [], false⟩, ⟨0, false, [], false⟩, ⟨1, false, [2, 3, 4, 5, 6, 7], false⟩, ⟨2, false, [0, 1, 2, 3, 4, 5, 6, 7, 8], false⟩, ⟨0, false, [0, 1, 2, 3, 4, 5, 6, 7, 8, 9], false⟩] mix tt_ok (by kernel_rfl) ?_
        simp only [decide_true, Bool.or_true, Bool.or_false, List.contains_cons, List.contains_nil, exOp_eq, exCall_eq, exD_cons, nxD_eq, cur_eq, flI, flE, ownB, evL, stepQ, ev, ofV, lk, putT, erA, inB, opt, bnd, req, ret, onQ, ap, binI, binG, binF, intF, ldP, ldE, ldC, ldS, Kd.agg, comps, csize, takeI, takeC, dropC, fldF, cvQ, true_and, and_self, Nat.reduceEqDiff, Nat.reduceLT, Nat.reduceLeDiff, Nat.reduceAdd, Nat.reduceSub, Nat.reduceDiv, Nat.sub_self, Nat.le_refl, Nat.add_zero, Nat.zero_add, if_true, if_false, Bool.false_eq_true, reduceCtorEq, ne_eq, not_false_eq_true, List.getElem?_cons_zero, Option.bind_some, Option.map_some, tt_3, tt_50, tt_55, tt_94, beq_self_eq_true, hw1, hw2]
        refine CallK.pure _ _ cn call62 (by simp only [AV.nmIn, bnd, req, ret, onQ, AV.isTup, isTupL, true_and, and_self, Nat.zero_add, Bool.false_eq_true, List.append_nil, vw.vwL, vw, AV.free, Bool.or_self]; all_goals (and_intros <;> first | exact AV.subL_refl _ | omega | (simp [AV.sub]; done) | rfl | (simp [AV.subL_refl]; done) | (simp; exact AV.subL_refl _))) ?_
        simp only [exOp_eq, exCall_eq, exD_cons, nxD_eq, cur_eq, flI, ownB, ownL, evL, evP, stepQ, ev, ofV, lk, putT, erA, inB, opt, bnd, req, ret, onQ, ap, up, er, AV.isTup, AV.isAgg, Kd.agg, comps, szL, csize, takeI, takeC, dropC, stC, stS, Row.len, Row.sz, bldA, bslQ, zeroCs, cellsRow, strsOf, and_true, true_and, and_self, and_false, Nat.reduceEqDiff, Nat.reduceLT, Nat.reduceLeDiff, Nat.reduceAdd, Nat.reduceSub, Nat.reduceMul, Nat.sub_self, Nat.le_refl, Nat.add_zero, Nat.zero_add, if_true, if_false, Bool.false_eq_true, reduceCtorEq, Option.bind_some, Option.map_some, List.append_nil, List.nil_append, List.cons_append, tt_9, tt_29, lit4, List.flatten_cons, List.flatten_nil, List.length_cons, List.length_nil]
        refine CallK.with [(0, .obj 58 (.agg [.mp 1, .mp 2, .sl 3 1 0 (encL (T)).length])), (1, .mset (.strs (nmL (encL (T))))), (2, .mset (.strs (tmL (encL (T))))), (3, .vec 9 (.strs (alL (encL (T)))))] [(0, .obj 58 (.agg [.mp 1, .mp 2, .sl 256 1 0 (encL (syT T k b (0 + 1))).length])), (1, .mset (.strs (nmL (encL (syT T k b (0 + 1)))))), (2, .mset (.strs (tmL (encL (syT T k b (0 + 1)))))), (256, .vec 9 (.strs (alL (encL (syT T k b (0 + 1))))))] _ _ ch call61 (by simp only [Bool.or_true, Bool.or_false, AV.nmIn, lk, opt, bnd, req, ret, onQ, AV.isTup, isTupL, Ent.row, and_true, true_and, and_self, Nat.reduceEqDiff, Nat.zero_add, if_true, if_false, reduceCtorEq, forall_const, List.append_nil, vw.vwL, vw, viewR, AV.free, Ent.row, Bool.or_self]; all_goals (and_intros <;> first | exact AV.subL_refl _ | omega | (simp [AV.sub, entsFree, Ent.free, Row.free]; done) | rfl | (simp [AV.subL_refl]; done))) (by simp [leL, lk]) (by intro n hn; first | (left; revert hn; simp [Nm, lk]; done) | (right; revert hn; simp only [Nm, lk]; split <;> simp <;> omega) | (by_cases h1 : Nm [(0, .obj 58 (.agg [.mp 1, .mp 2, .sl 3 1 0 (encL (T)).length])), (1, .mset (.strs (nmL (encL (T))))), (2, .mset (.strs (tmL (encL (T))))), (3, .vec 9 (.strs (alL (encL (T)))))] n; exact .inl h1; right; revert hn h1; simp only [Nm, lk]; split <;> (try split) <;> (try split) <;> (try split) <;> (try simp) <;> (try omega))) (by simp [entsIn, Ent.nmIn, Row.nmIn, AV.nmIn, AV.nmInL, Nm, lk]) ?_
        simp only [callDel, exOp_eq, exD_nil, exD_cons, nxD_eq, cur_eq, flI, ownB, stepQ, ev, lk, putT, erA, inB, opt, ret, onQ, ap, up, er, true_and, Nat.reduceEqDiff, Nat.reduceLT, Nat.reduceAdd, Nat.zero_add, if_true, if_false, reduceCtorEq, List.nil_append, List.cons_append, List.map_cons, List.map_nil, List.reverse_cons, List.reverse_nil]
        refine hK _ ?_
        clear hK K
        refine W.swap 5 256 (by simp [Nm, lk]) ?_
        simp [St.swap, tmMap, enMap, swp, AV.map, AV.mapL, Ent.map, Row.map]
        refine W.seqK fun Kn hKn => ?_
        refine W.seqK fun K hK => W.regionK tt_ok ?_
        simp only [exOps_nil, exOps_cons, exOp_eq, nx_eq, cur_eq, stepQ, ev, ofV, lk, putT, erA, inB, opt, bnd, req, ret, onQ, ap, binI, binG, binF, strF, true_and, and_self, Nat.reduceEqDiff, Nat.reduceLT, Nat.reduceAdd, if_true, if_false, hne]
        refine hK _ ?_
        clear hK K
        refine W.cond (b := false) (by simp only [ev, lk, Nat.reduceEqDiff, if_true, if_false]) (fun h => absurd h (by simp)) (fun _ => W.skip ?_)
        simp only [thn_normal]
        refine hKn _ ?_
        refine W.region tt_ok ?_
        simp only [exOps_nil, exOps_cons, exOp_eq, exCall_eq, nx_eq, cur_eq, curV_eq, evL, evP, stepQ, ev, lk, putT, erA, inB, opt, bnd, req, ret, onQ, ap, up, er, AV.isTup, AV.isAgg, Kd.agg, comps, szL, csize, takeI, takeC, dropC, stC, stS, bltQ, bltV, appQ, appV, srcQ, Row.len, Row.sz, Row.take, Row.drop, Ent.row, Row.lst, bldA, bslQ, zeroCs, cellsRow, strsOf, thn_normal, inb_normal, and_true, true_and, and_self, and_false, Nat.reduceEqDiff, Nat.reduceLT, Nat.reduceLeDiff, Nat.reduceAdd, Nat.reduceSub, Nat.reduceMul, Nat.sub_self, Nat.le_refl, Nat.add_zero, Nat.zero_add, if_true, if_false, Bool.false_eq_true, reduceCtorEq, ne_eq, not_false_eq_true, Option.bind_some, Option.map_some, List.append_nil, List.nil_append, tt_9, tt_29, lit1, List.flatten_cons, List.flatten_nil, List.length_cons, List.length_nil, List.drop_zero, List.take_succ_cons, List.take_zero]
        refine .inl ?_
        refine hK _ ?_
        have hw0 : IntKind.i64.wrap (0 + 1) = 1 := by decide
        refine W.region tt_ok ?_
        simp only [exOps_nil, exOps_cons, exOp_eq, nx_eq, cur_eq, stepQ, ev, ofV, lk, putT, erA, inB, opt, bnd, req, ret, onQ, ap, binI, binG, binF, intF, thn_normal, true_and, and_self, Nat.reduceEqDiff, Nat.reduceLT, Nat.reduceAdd, if_true, if_false, hw0]
        refine hK3 _ 1 4 368 (by omega) (by omega) (by simp [Nm, lk]) ?_
        simp at hsn
        simp [syI, hsn, tbX, St.swap, tmMap, enMap, swp, AV.map, AV.mapL, Ent.map, Row.map, wk, leL, lk, nmT, nmE, nmH, AV.nmIn, AV.nmInL, Ent.nmIn, Row.nmIn]
      | succ i => 
        have l1 : ((i + 1 : Nat) : Int) < (n : Nat) := by omega
        have cn := num_fn (((i + 1 + 1 : Nat) : Nat) : Int) (by omega)
        have hwk : IntKind.i64.wrap (((i + 1 : Nat) : Int) + 1) = ((i + 1 + 1 : Nat) : Int) := wrap_up (i + 1) (by omega)
        have hw1 : IntKind.i64.wrap (((i + 1 : Nat) : Int) + 1) = ((i + 1 + 1 : Nat) : Int) := hwk
        have hw2 : IntKind.u64.wrap (((i + 1 + 1 : Nat) : Nat) : Int) = ((i + 1 + 1 : Nat) : Int) := by rw [IntKind.wrap_u64]; omega
        have hpp := kyP_T hk hb (i + 1)
        have hTi := syT_ne (T := T) hk hb i
        have hli := syT_len T k b (i + 1)
        have ch := sy_hash5 hTi hk hb (by first | omega | (simp at hli; omega)) (i + 1)
        have hch : tPut (syT T k b (i + 1)) 4 (kyP k b (i + 1)) = syT T k b (i + 1 + 1) := rfl
        rw [hch] at ch
        obtain ⟨j, hj, _⟩ := put_at (hokS (i + 1)) hpp
        have hne : ((putN (encL (syT T k b (i + 1))) 4 (kyP k b (i + 1))).toList == ({ data := #[] } : ByteArray).toList) = false := by rw [hj, toL_beq, decide_eq_false_iff_not]; exact nm_ne _
        have hsl := syN_len T k b (i + 1)
        have hsn : syN T k b (i + 1 + 1) = List.take (i + 1) (syN T k b (i + 1)) ++ [putN (encL (syT T k b (i + 1))) 4 (kyP k b (i + 1))] := by rw [List.take_of_length_le (by omega)]; rfl
        generalize putN (encL (syT T k b (i + 1))) 4 (kyP k b (i + 1)) = r at *
        simp only [tbX, kyP, sK] at ch
        simp only [syI, tbX]
        refine W.seqK fun K hK => W.regionK tt_ok ?_
        simp only [decide_true, exOps_nil, exOps_cons, exOp_eq, nx_eq, cur_eq, stepQ, ev, lk, putT, erA, inB, opt, bnd, req, ret, onQ, ap, binI, binG, binF, intF, true_and, and_self, Nat.reduceEqDiff, Nat.reduceLT, Nat.reduceAdd, if_true, if_false, l1]
        refine hK _ ?_
        clear hK K
        refine W.seqK fun K hK => W.cond (b := true) (by simp only [ev, lk, Nat.reduceEqDiff, if_true, if_false]) (fun _ => W.skip ?_) (fun h => absurd h (by simp))
        rw [thn_normal]
        refine hK _ ?_
        clear hK K
        refine W.seqK fun K hK => W.blockK ?_
        refine W.seqK fun K hK => W.regionK tt_ok ?_
        simp only [exOps_nil, exOps_cons, exOp_eq, nx_eq, cur_eq, stepQ, ev, lk, putT, erA, inB, opt, ret, onQ, ap, true_and, Nat.reduceEqDiff, Nat.reduceLT, Nat.reduceAdd, if_true, if_false]
        refine hK _ ?_
        clear hK K
        refine W.seqK fun K hK => W.drawK [⟨0, true, [], false⟩, ⟨0, true, [0], false⟩, ⟨0, false, [], false⟩, ⟨0, false, [2], false⟩, ⟨0, false, [2, 3], false⟩, ⟨0, false, [2, 3, 4], false⟩, ⟨0, false, [], false⟩, ⟨0, false, [], false⟩, ⟨1, false, [2, 3, 4, 5, 6, 7], false⟩, ⟨2, false, [0, 1, 2, 3, 4, 5, 6, 7, 8], false⟩, ⟨0, false, [0, 1, 2, 3, 4, 5, 6, 7, 8, 9], false⟩] mix tt_ok (by kernel_rfl) ?_
        simp only [decide_true, Bool.or_true, Bool.or_false, List.contains_cons, List.contains_nil, exOp_eq, exCall_eq, exD_cons, nxD_eq, cur_eq, flI, flE, ownB, evL, stepQ, ev, ofV, lk, putT, erA, inB, opt, bnd, req, ret, onQ, ap, binI, binG, binF, intF, ldP, ldE, ldC, ldS, Kd.agg, comps, csize, takeI, takeC, dropC, fldF, cvQ, true_and, and_self, Nat.reduceEqDiff, Nat.reduceLT, Nat.reduceLeDiff, Nat.reduceAdd, Nat.reduceSub, Nat.reduceDiv, Nat.sub_self, Nat.le_refl, Nat.add_zero, if_true, if_false, Bool.false_eq_true, reduceCtorEq, ne_eq, not_false_eq_true, List.getElem?_cons_zero, Option.bind_some, Option.map_some, tt_3, tt_50, tt_55, tt_94, beq_self_eq_true, hw1, hw2]
        refine CallK.pure _ _ cn call62 (by simp only [AV.nmIn, bnd, req, ret, onQ, AV.isTup, isTupL, true_and, and_self, Bool.false_eq_true, List.append_nil, vw.vwL, vw, AV.free, Bool.or_self]; all_goals (and_intros <;> first | exact AV.subL_refl _ | omega | (simp [AV.sub]; done) | rfl | (simp [AV.subL_refl]; done) | (simp; exact AV.subL_refl _))) ?_
        simp only [exOp_eq, exCall_eq, exD_cons, nxD_eq, cur_eq, flI, ownB, ownL, evL, evP, stepQ, ev, ofV, lk, putT, erA, inB, opt, bnd, req, ret, onQ, ap, up, er, AV.isTup, AV.isAgg, Kd.agg, comps, szL, csize, takeI, takeC, dropC, stC, stS, Row.len, Row.sz, bldA, bslQ, zeroCs, cellsRow, strsOf, and_true, true_and, and_self, and_false, Nat.reduceEqDiff, Nat.reduceLT, Nat.reduceLeDiff, Nat.reduceAdd, Nat.reduceSub, Nat.reduceMul, Nat.sub_self, Nat.le_refl, Nat.add_zero, Nat.zero_add, if_true, if_false, Bool.false_eq_true, reduceCtorEq, Option.bind_some, Option.map_some, List.append_nil, List.nil_append, List.cons_append, tt_9, tt_29, lit4, List.flatten_cons, List.flatten_nil, List.length_cons, List.length_nil]
        refine CallK.with [(0, .obj 58 (.agg [.mp 1, .mp 2, .sl 5 1 0 (encL (syT T k b (i + 1))).length])), (1, .mset (.strs (nmL (encL (syT T k b (i + 1)))))), (2, .mset (.strs (tmL (encL (syT T k b (i + 1)))))), (5, .vec 9 (.strs (alL (encL (syT T k b (i + 1))))))] [(0, .obj 58 (.agg [.mp 1, .mp 2, .sl 256 1 0 (encL (syT T k b (i + 1 + 1))).length])), (1, .mset (.strs (nmL (encL (syT T k b (i + 1 + 1)))))), (2, .mset (.strs (tmL (encL (syT T k b (i + 1 + 1)))))), (256, .vec 9 (.strs (alL (encL (syT T k b (i + 1 + 1))))))] _ _ ch call61 (by simp only [Bool.or_true, Bool.or_false, AV.nmIn, lk, opt, bnd, req, ret, onQ, AV.isTup, isTupL, Ent.row, and_true, true_and, and_self, Nat.reduceEqDiff, Nat.zero_add, if_true, if_false, reduceCtorEq, forall_const, List.append_nil, vw.vwL, vw, viewR, AV.free, Ent.row, Bool.or_self]; all_goals (and_intros <;> first | exact AV.subL_refl _ | omega | (simp [AV.sub, entsFree, Ent.free, Row.free]; done) | rfl | (simp [AV.subL_refl]; done))) (by simp [leL, lk]) (by intro n hn; first | (left; revert hn; simp [Nm, lk]; done) | (right; revert hn; simp only [Nm, lk]; split <;> simp <;> omega) | (by_cases h1 : Nm [(0, .obj 58 (.agg [.mp 1, .mp 2, .sl 5 1 0 (encL (syT T k b (i + 1))).length])), (1, .mset (.strs (nmL (encL (syT T k b (i + 1)))))), (2, .mset (.strs (tmL (encL (syT T k b (i + 1)))))), (5, .vec 9 (.strs (alL (encL (syT T k b (i + 1))))))] n; exact .inl h1; right; revert hn h1; simp only [Nm, lk]; split <;> (try split) <;> (try split) <;> (try split) <;> (try simp) <;> (try omega))) (by simp [entsIn, Ent.nmIn, Row.nmIn, AV.nmIn, AV.nmInL, Nm, lk]) ?_
        simp only [callDel, exOp_eq, exD_nil, exD_cons, nxD_eq, cur_eq, flI, ownB, stepQ, ev, lk, putT, erA, inB, opt, ret, onQ, ap, up, er, true_and, Nat.reduceEqDiff, Nat.reduceLT, Nat.reduceAdd, if_true, if_false, reduceCtorEq, List.nil_append, List.cons_append, List.map_cons, List.map_nil, List.reverse_cons, List.reverse_nil]
        refine hK _ ?_
        clear hK K
        refine W.swap 5 256 (by simp [Nm, lk]) ?_
        simp [St.swap, tmMap, enMap, swp, AV.map, AV.mapL, Ent.map, Row.map]
        refine W.seqK fun Kn hKn => ?_
        refine W.seqK fun K hK => W.regionK tt_ok ?_
        simp only [exOps_nil, exOps_cons, exOp_eq, nx_eq, cur_eq, stepQ, ev, ofV, lk, putT, erA, inB, opt, bnd, req, ret, onQ, ap, binI, binG, binF, strF, true_and, and_self, Nat.reduceEqDiff, Nat.reduceLT, Nat.reduceAdd, if_true, if_false, hne]
        refine hK _ ?_
        clear hK K
        refine W.cond (b := false) (by simp only [ev, lk, Nat.reduceEqDiff, if_true, if_false]) (fun h => absurd h (by simp)) (fun _ => W.skip ?_)
        simp only [thn_normal]
        refine hKn _ ?_
        refine W.region tt_ok ?_
        simp only [exOps_nil, exOps_cons, exOp_eq, exCall_eq, nx_eq, cur_eq, evL, evP, stepQ, ev, lk, putT, erA, inB, opt, bnd, req, ret, onQ, ap, up, er, AV.isTup, AV.isAgg, Kd.agg, comps, szL, csize, takeI, takeC, dropC, stC, stS, bltQ, bltV, appR, appQ, appV, srcQ, Row.len, Row.sz, Row.take, Row.drop, Row.app, Ent.row, bldA, bslQ, zeroCs, cellsRow, strsOf, thn_normal, inb_normal, and_true, true_and, and_self, and_false, or_false, Nat.reduceEqDiff, Nat.reduceLT, Nat.reduceLeDiff, Nat.reduceAdd, Nat.reduceSub, Nat.reduceMul, Nat.sub_self, Nat.le_refl, Nat.add_zero, Nat.zero_add, if_true, if_false, Bool.false_eq_true, reduceCtorEq, Option.bind_some, Option.map_some, List.append_nil, List.nil_append, tt_9, tt_29, lit1, List.flatten_cons, List.flatten_nil, List.length_cons, List.length_nil, List.drop_zero, List.take_succ_cons, List.take_zero]
        refine ⟨⟨by omega, by omega, by omega⟩, ?_⟩
        refine hK _ ?_
        have hwk2 : IntKind.i64.wrap ((i : Int) + 1 + 1) = (i : Int) + 2 := by rw [IntKind.wrap_i64]; omega
        refine W.region tt_ok ?_
        simp only [exOps_nil, exOps_cons, exOp_eq, nx_eq, cur_eq, stepQ, ev, ofV, lk, putT, erA, inB, opt, bnd, req, ret, onQ, ap, binI, binG, binF, intF, thn_normal, true_and, and_self, Nat.reduceEqDiff, Nat.reduceLT, Nat.reduceAdd, if_true, if_false, hwk2]
        refine hK3 _ (i + 2) 4 368 (by omega) (by omega) (by simp [Nm, lk]) ?_
        simp [syI, hsn, tbX, St.swap, tmMap, enMap, swp, AV.map, AV.mapL, Ent.map, Row.map, wk, leL, lk, nmT, nmE, nmH, AV.nmIn, AV.nmInL, Ent.nmIn, Row.nmIn]
    · obtain rfl : i = n := by omega
      have l1 : ¬ ((i : Nat) : Int) < (i : Nat) := by omega
      cases i with
      | zero => omega
      | succ i =>
        simp only [syI, tbX]
        refine W.seqK fun K hK => W.regionK tt_ok ?_
        simp only [decide_false, exOps_nil, exOps_cons, exOp_eq, nx_eq, cur_eq, stepQ, ev, lk, putT, erA, inB, opt, bnd, req, ret, onQ, ap, binI, binG, binF, intF, true_and, and_self, Nat.reduceEqDiff, Nat.reduceLT, Nat.reduceAdd, if_true, if_false, l1]
        refine hK _ ?_
        clear hK K
        refine W.seqK fun K hK => W.cond (b := false) (by simp only [ev, lk, Nat.reduceEqDiff, if_true, if_false]) (fun h => absurd h (by simp)) (fun _ => W.exit ?_)
        simp only [thn_normal, thn_exit, inb_exit, if_true]
        clear hK K
        refine hKy _ ?_
        refine W.seqK fun K hK => W.regionK tt_ok ?_
        simp only [exOps_nil, exOps_cons, exOp_eq, nx_eq, cur_eq, stepQ, ev, lk, putT, erA, inB, opt, ret, onQ, ap, true_and, Nat.reduceEqDiff, Nat.reduceLT, Nat.reduceAdd, if_true, if_false]
        refine hK _ ?_
        clear hK K
        refine W.ret ?_
        simp only [fin_ret, finB, resQ, resV, leL, AV.nmIn, entsIn, lk, opt, bnd, req, ret, onQ, AV.isTup, and_true, true_and, and_self, Nat.reduceEqDiff, if_true, if_false, reduceCtorEq]
        simp [Nm, lk, Ent.nmIn, Row.nmIn, AV.nmIn, AV.nmInL]
end Go.Proofs.Ytbefcdgjainflaa
