/- Skipped keys: the document's Heads. -/
import Derived.Test.YthnkhdenkagceaaSkQ
-- TT 3 4 9 22 24 28 33 29 47
-- SIMP viewEL_its nm_its free_its
set_option linter.unusedVariables false
set_option linter.unusedSimpArgs false
namespace Go.Proofs.Ythnkhdenkagceaa
open Sx
set_option maxRecDepth 100000
set_option maxHeartbeats 1000000
theorem sEq_comm (s t : ByteArray) : sEq s t = sEq t s := by
  rw [sEq, sEq, Bool.eq_iff_iff, beq_iff_eq, beq_iff_eq]; exact eq_comm
theorem hasS_any (v : ByteArray) (ss : List ByteArray) : hasS v ss = ss.any fun t => sEq t v := by
  rw [hasS, fG, Bool.eq_iff_iff, decide_eq_true_iff, List.any_eq_true]
  have h := List.findIdx_lt_length (p := fun t => sEq v t) (xs := ss)
  split
  · rename_i hh
    obtain ⟨x, hx, hp⟩ := h.1 hh
    exact ⟨fun _ => ⟨x, hx, by rw [sEq_comm]; exact hp⟩, fun _ => by omega⟩
  · rename_i hh
    refine ⟨fun g => by omega, fun ⟨x, hx, hp⟩ => absurd (h.2 ⟨x, hx, by rw [sEq_comm]; exact hp⟩) hh⟩
theorem any_up (v : ByteArray) (ss : List ByteArray) (j : Nat) (h : j < ss.length) : (ss.take (j + 1)).any (fun t => sEq t v) = ((ss.take j).any (fun t => sEq t v) || sEq ss[j] v) := by
  rw [List.take_succ_eq_append_getElem h, List.any_append]; simp
def rhI (l : List It) (k : Nat) : St := ⟨[(0, .lst 3 (l.map itV)), (3, if k = 0 then .nils else .sl 200 1 0 (hdK l k).length), (4, .int .i64 (k : Int))], if k = 0 then [] else [(200, .vec 9 (.strs (hdK l k)))], 512, 43⟩
theorem rheads0 (l : List It) (hl : l.length ≤ 1000000) (h0 : l.length ≠ 0) : FnR Try.prog G 21 [.lst 3 (l.map itV)] [] (.sl 200 1 0 (hdK l l.length).length) [(200, .vec 9 (.strs (hdK l l.length)))] := by
  have hml : (l.map itV).length = l.length := List.length_map ..
  refine FnR.of_walk (m := 43) (n0 := 0) tt_ok Try.func21 rfl rfl (by simp) (by simp [nmH]) ?_
  rw [show Try.f21.results.toList = [.tmp 2] from rfl]
  refine W.seqK fun K hK => W.regionK tt_ok ?_
  simp only [exOps_nil, exOps_cons, exOp_eq, nx_eq, cur_eq, stepQ, ev, ofV, parT, putT, erA, inB, opt, ret, onQ, ap, true_and, Nat.reduceLT, Nat.zero_add, if_false, reduceCtorEq]
  refine hK _ ?_
  clear hK K
  refine W.seqK fun K hK => W.regionK tt_ok ?_
  simp only [exOps_nil, exOps_cons, exOp_eq, nx_eq, cur_eq, stepQ, ev, ofV, putT, erA, inB, opt, ret, onQ, ap, true_and, Nat.reduceEqDiff, Nat.reduceLT, Nat.reduceAdd, if_false, reduceCtorEq]
  refine hK _ ?_
  clear hK K
  refine W.seqK fun Kx hKx => ?_
  refine W.seqK fun K hK => W.regionK tt_ok ?_
  simp only [exOps_nil, exOps_cons, exOp_eq, nx_eq, cur_eq, stepQ, ev, ofV, putT, erA, inB, opt, ret, onQ, ap, true_and, Nat.reduceEqDiff, Nat.reduceLT, Nat.reduceAdd, if_false, reduceCtorEq]
  refine hK _ ?_
  clear hK K
  refine W.blockK ?_
  refine W.loopS (fun k : Nat => k ≤ l.length) (rhI l) (fun k => l.length - k) 0 (by simp) (by simp [rhI, wk, leL, lk, nmT, nmE, nmH, AV.nmIn]) ?_
  intro k hk K3 hK3
  by_cases hlt : k < l.length
  · have c1 : (k : Int) < (l.length : Nat) := by omega
    have he := it_get l k hlt
    have hle := hdK_le l k
    have hg : l.getD k default = l[k] := by simp [List.getD_eq_getElem?_getD, hlt]
    have hs : hdK l (k + 1) = if hasS l[k].h (hdK l k) then hdK l k else hdK l k ++ [l[k].h] := by rw [hdK, hg]
    have ht1 : ∀ a : ByteArray, List.take 1 (List.drop 0 [a]) = [a] := fun _ => rfl
    have hnd : 0 < k → (hdK l k).length ≠ 0 := fun h => hdK_pos l k (by omega)
    generalize hT1 : hdK l (k + 1) = H1 at *
    generalize hT0 : hdK l k = H at *
    generalize hy : l[k] = y at *
    have htH : List.take H.length H = H := List.take_length
    rw [hasS_any] at hs
    by_cases hk0 : k = 0
    · subst hk0
      have hH : H = [] := by rw [← hT0]; rfl
      rw [hH] at hs
      simp only [List.any_nil, Bool.false_eq_true, if_false, List.nil_append] at hs
      simp only [rhI, if_true]
      refine W.seqK fun K0 hK0 => ?_
      refine W.seqK fun K hK => W.regionK tt_ok ?_
      simp only [decide_true, exOps_nil, exOps_cons, exOp_eq, exCall_eq, nx_eq, cur_eq, evL, stepQ, ev, lk, putT, erA, inB, opt, bnd, req, ret, onQ, ap, binG, binF, intF, bltQ, bltV, lenF, true_and, and_self, or_false, Nat.reduceEqDiff, Nat.reduceLT, Nat.reduceAdd, if_true, if_false, reduceCtorEq, List.getElem?_cons_zero, Option.bind_some, Option.map_some, tt_22, hml, c1]
      refine hK _ ?_
      clear hK K
      refine W.cond (b := true) (by simp only [ev, lk, Nat.reduceEqDiff, if_true, if_false, reduceCtorEq]) (fun _ => W.skip ?_) (fun h => absurd h (by simp))
      rw [thn_normal]
      refine hK0 _ ?_
      clear hK0 K0
      refine W.seqK fun K hK => W.blockK ?_
      refine W.seqK fun K hK => W.regionK tt_ok ?_
      simp only [exOps_nil, exOps_cons, exOp_eq, nx_eq, cur_eq, stepQ, ev, ofV, putT, erA, inB, opt, ret, onQ, ap, true_and, Nat.reduceEqDiff, Nat.reduceLT, Nat.reduceAdd, if_false, reduceCtorEq]
      refine hK _ ?_
      clear hK K
      refine W.seqK fun Kn hKn => ?_
      refine W.seqK fun K hK => W.regionK tt_ok ?_
      simp only [exOps_nil, exOps_cons, exOp_eq, nx_eq, cur_eq, stepQ, ev, ofV, putT, erA, inB, opt, ret, onQ, ap, true_and, Nat.reduceEqDiff, Nat.reduceLT, Nat.reduceAdd, if_false, reduceCtorEq]
      refine hK _ ?_
      clear hK K
      refine W.blockK ?_
      refine W.loopK (fun j : Nat => j = 0) (fun j => ⟨[(0, .lst 3 (l.map itV)), (3, .nils), (4, .int .i64 0), (5, .bool false), (6, .int .i64 0)], [], 600, 43⟩) (fun j => 0) 0 (by simp) (by simp [wk, leL, lk, nmT, nmE, nmH, AV.nmIn]) ?_
      intro j hj K4 hK4
      refine W.seqK fun K0 hK0 => ?_
      refine W.seqK fun K hK => W.regionK tt_ok ?_
      simp only [decide_false, exOps_nil, exOps_cons, exOp_eq, exCall_eq, nx_eq, cur_eq, evL, stepQ, ev, lk, putT, erA, inB, opt, bnd, req, ret, onQ, ap, binG, binF, intF, bltQ, bltV, lenF, true_and, and_self, or_false, Nat.reduceEqDiff, Nat.reduceLT, Nat.reduceAdd, Int.reduceLT, if_true, if_false, reduceCtorEq, List.getElem?_cons_zero, Option.bind_some, Option.map_some, tt_47]
      refine hK _ ?_
      clear hK K
      refine W.cond (b := false) (by simp only [ev, lk, Nat.reduceEqDiff, if_true, if_false, reduceCtorEq]) (fun h => absurd h (by simp)) (fun _ => W.exit ?_)
      simp only [thn_normal, thn_exit, inb_exit, Nat.reduceEqDiff, if_true, if_false, reduceCtorEq]
      clear hK0 K0
      refine hKn _ ?_
      refine W.seqK fun K hK => W.regionK tt_ok ?_
      simp only [Bool.not_false, exOps_nil, exOps_cons, exOp_eq, nx_eq, cur_eq, stepQ, ev, lk, putT, erA, inB, opt, bnd, req, ret, onQ, ap, unF, true_and, and_self, Nat.reduceEqDiff, Nat.reduceLT, Nat.reduceAdd, if_true, if_false, reduceCtorEq]
      refine hK _ ?_
      clear hK K
      refine W.cond (b := true) (by simp only [ev, lk, Nat.reduceEqDiff, if_true, if_false, reduceCtorEq]) (fun _ => ?_) (fun h => absurd h (by simp))
      refine W.region tt_ok ?_
      simp only [exOps_nil, exOps_cons, exOp_eq, exCall_eq, nx_eq, cur_eq, curV_eq, evL, evP, stepQ, ev, lk, putT, erA, inB, opt, bnd, req, ret, onQ, ap, up, er, AV.isTup, AV.isAgg, Kd.elem, ixA, asI, ldP, ldC, ldS, Kd.agg, comps, szL, csize, takeI, takeC, dropC, stC, stS, fldF, bltQ, bltV, appQ, appV, srcQ, Row.len, Row.sz, Row.take, Row.drop, Ent.row, Row.lst, bldA, bslQ, zeroCs, cellsRow, strsOf, thn_normal, inb_normal, and_true, true_and, and_self, and_false, Nat.reduceEqDiff, Nat.reduceLT, Nat.reduceLeDiff, Nat.reduceAdd, Nat.reduceSub, Nat.reduceMul, Int.reduceLE, Int.reduceToNat, Nat.sub_self, Nat.le_refl, Nat.add_zero, Nat.zero_add, if_true, if_false, Bool.false_eq_true, reduceCtorEq, ne_eq, not_false_eq_true, List.getElem?_cons_zero, Option.bind_some, Option.map_some, List.append_nil, List.nil_append, tt_9, tt_22, tt_24, tt_47, he, hml, lit1, List.flatten_cons, List.flatten_nil, List.length_cons, List.length_nil, ht1]
      refine ⟨by omega, ?_⟩
      refine Or.inl ?_
      refine hK _ ?_
      refine W.region tt_ok ?_
      simp only [exOps_nil, exOps_cons, exOp_eq, nx_eq, cur_eq, stepQ, ev, ofV, lk, putT, erA, inB, opt, bnd, req, ret, onQ, ap, binG, binF, intF, thn_normal, true_and, and_self, Nat.reduceEqDiff, Nat.reduceLT, Nat.reduceAdd, if_true, if_false, reduceCtorEq]
      have hw1 : IntKind.i64.wrap 1 = 1 := by rw [IntKind.wrap_i64]; rfl
      refine hK3 _ 1 808 200 (by omega) (by omega) ⟨⟨by simp [Nm, lk], by simp [Nm, lk]⟩, by simp, by simp⟩ ?_
      simp [hw1, rhI, hT1, hs, St.swap, tmMap, enMap, swp, AV.map, Ent.map, Row.map, wk, leL, lk, nmT, nmE, nmH, AV.nmIn, Ent.nmIn, Row.nmIn]
    · simp only [rhI, if_neg hk0, hT0]
      have hHn := hnd (by omega)
      refine W.seqK fun K0 hK0 => ?_
      refine W.seqK fun K hK => W.regionK tt_ok ?_
      simp only [decide_true, exOps_nil, exOps_cons, exOp_eq, exCall_eq, nx_eq, cur_eq, evL, stepQ, ev, lk, putT, erA, inB, opt, bnd, req, ret, onQ, ap, binG, binF, intF, bltQ, bltV, lenF, true_and, and_self, or_false, Nat.reduceEqDiff, Nat.reduceLT, Nat.reduceAdd, if_true, if_false, reduceCtorEq, List.getElem?_cons_zero, Option.bind_some, Option.map_some, tt_22, hml, c1]
      refine hK _ ?_
      clear hK K
      refine W.cond (b := true) (by simp only [ev, lk, Nat.reduceEqDiff, if_true, if_false, reduceCtorEq]) (fun _ => W.skip ?_) (fun h => absurd h (by simp))
      rw [thn_normal]
      refine hK0 _ ?_
      clear hK0 K0
      refine W.seqK fun K hK => W.blockK ?_
      refine W.seqK fun K hK => W.regionK tt_ok ?_
      simp only [exOps_nil, exOps_cons, exOp_eq, nx_eq, cur_eq, stepQ, ev, ofV, putT, erA, inB, opt, ret, onQ, ap, true_and, Nat.reduceEqDiff, Nat.reduceLT, Nat.reduceAdd, if_false, reduceCtorEq]
      refine hK _ ?_
      clear hK K
      refine W.seqK fun Kn hKn => ?_
      refine W.seqK fun K hK => W.regionK tt_ok ?_
      simp only [exOps_nil, exOps_cons, exOp_eq, nx_eq, cur_eq, stepQ, ev, ofV, putT, erA, inB, opt, ret, onQ, ap, true_and, Nat.reduceEqDiff, Nat.reduceLT, Nat.reduceAdd, if_false, reduceCtorEq]
      refine hK _ ?_
      clear hK K
      refine W.blockK ?_
      refine W.loopK (fun j : Nat => j ≤ H.length) (fun j => ⟨[(0, .lst 3 (l.map itV)), (3, .sl 200 1 0 H.length), (4, .int .i64 (k : Int)), (5, .bool ((H.take j).any fun t => sEq t y.h)), (6, .int .i64 (j : Int))], [(200, .vec 9 (.strs H))], 600, 43⟩) (fun j => H.length - j) 0 (by simp) (by simp [wk, leL, lk, nmT, nmE, nmH, AV.nmIn, Ent.nmIn, Row.nmIn]) ?_
      intro j hj K4 hK4
      by_cases hlj : j < H.length
      · have c2 : (j : Int) < (H.length : Nat) := by omega
        have hup := any_up y.h H j hlj
        have heH : H.getD j ByteArray.empty = H[j] := by simp [List.getD_eq_getElem?_getD, hlj]
        have hsq : (H[j].toList == y.h.toList) = sEq H[j] y.h := rfl
        cases hb : (H.take j).any fun t => sEq t y.h with
        | true =>
          rw [hb, Bool.true_or] at hup
          refine W.seqK fun K0 hK0 => ?_
          refine W.seqK fun K hK => W.regionK tt_ok ?_
          simp only [decide_true, exOps_nil, exOps_cons, exOp_eq, exCall_eq, nx_eq, cur_eq, evL, stepQ, ev, lk, putT, erA, inB, opt, bnd, req, ret, onQ, ap, binG, binF, intF, bltQ, bltV, lenF, true_and, and_self, or_false, Nat.reduceEqDiff, Nat.reduceLT, Nat.reduceAdd, if_true, if_false, reduceCtorEq, List.getElem?_cons_zero, Option.bind_some, Option.map_some, tt_47, c2]
          refine hK _ ?_
          clear hK K
          refine W.cond (b := true) (by simp only [ev, lk, Nat.reduceEqDiff, if_true, if_false, reduceCtorEq]) (fun _ => W.skip ?_) (fun h => absurd h (by simp))
          rw [thn_normal]
          refine hK0 _ ?_
          clear hK0 K0
          refine W.seqK fun K hK => W.blockK ?_
          refine exD_sound (A := [⟨0, false, [], false⟩, ⟨0, false, [0], false⟩, ⟨0, false, [0, 1], false⟩, ⟨0, false, [0, 1], false⟩, ⟨0, false, [0, 1, 2, 3], false⟩, ⟨0, false, [0, 1, 2, 3, 4], false⟩, ⟨0, false, [0, 1], false⟩, ⟨0, false, [0, 1], false⟩, ⟨0, false, [0, 1, 6, 7], false⟩, ⟨0, false, [0, 1, 6, 7, 8], false⟩, ⟨0, false, [0, 1, 6, 7, 8, 9], false⟩, ⟨0, false, [0, 1, 2, 3, 4, 5, 6, 7, 8, 9, 10], false⟩, ⟨0, false, [0, 1, 2, 3, 4, 5, 6, 7, 8, 9, 10, 11], false⟩, ⟨0, false, [0, 1, 2, 3, 4, 5, 6, 7, 8, 9, 10, 11, 12], false⟩]) mix tt_ok (by kernel_rfl) ?_
          simp only [↓gTF, ↓nTF, exOp_eq, exD_nil, exD_cons, nxD_eq, cur_eq, gdV, flI, ownB, stepQ, ev, ofV, lk, putT, erA, inB, opt, bnd, req, ret, onQ, ap, pickF, thn_normal, inb_normal, true_and, and_self, Nat.reduceEqDiff, Nat.reduceLT, Nat.reduceAdd, if_true, if_false, reduceCtorEq, List.getElem?_cons_zero, List.getElem?_cons_succ, Option.bind_some]
          repeat (refine ⟨by omega, ?_⟩)
          refine hK _ ?_
          clear hK K
          refine W.region tt_ok ?_
          simp only [exOps_nil, exOps_cons, exOp_eq, nx_eq, cur_eq, stepQ, ev, ofV, lk, putT, erA, inB, opt, bnd, req, ret, onQ, ap, binG, binF, intF, thn_normal, true_and, and_self, Nat.reduceEqDiff, Nat.reduceLT, Nat.reduceAdd, if_true, if_false, reduceCtorEq, wrap_up j (by omega)]
          refine hK4 _ (j + 1) (by omega) (by omega) ?_
          simp [hup, wk, leL, lk, nmT, nmE, nmH, AV.nmIn, Ent.nmIn, Row.nmIn]
        | false =>
          rw [hb, Bool.false_or] at hup
          refine W.seqK fun K0 hK0 => ?_
          refine W.seqK fun K hK => W.regionK tt_ok ?_
          simp only [decide_true, exOps_nil, exOps_cons, exOp_eq, exCall_eq, nx_eq, cur_eq, evL, stepQ, ev, lk, putT, erA, inB, opt, bnd, req, ret, onQ, ap, binG, binF, intF, bltQ, bltV, lenF, true_and, and_self, or_false, Nat.reduceEqDiff, Nat.reduceLT, Nat.reduceAdd, if_true, if_false, reduceCtorEq, List.getElem?_cons_zero, Option.bind_some, Option.map_some, tt_47, c2]
          refine hK _ ?_
          clear hK K
          refine W.cond (b := true) (by simp only [ev, lk, Nat.reduceEqDiff, if_true, if_false, reduceCtorEq]) (fun _ => W.skip ?_) (fun h => absurd h (by simp))
          rw [thn_normal]
          refine hK0 _ ?_
          clear hK0 K0
          refine W.seqK fun K hK => W.blockK ?_
          refine exD_sound (A := [⟨0, false, [], false⟩, ⟨0, false, [0], false⟩, ⟨0, false, [0, 1], false⟩, ⟨0, false, [0, 1], false⟩, ⟨0, false, [0, 1, 2, 3], false⟩, ⟨0, false, [0, 1, 2, 3, 4], false⟩, ⟨0, false, [0, 1], false⟩, ⟨0, false, [0, 1], false⟩, ⟨0, false, [0, 1, 6, 7], false⟩, ⟨0, false, [0, 1, 6, 7, 8], false⟩, ⟨0, false, [0, 1, 6, 7, 8, 9], false⟩, ⟨0, false, [0, 1, 2, 3, 4, 5, 6, 7, 8, 9, 10], false⟩, ⟨0, false, [0, 1, 2, 3, 4, 5, 6, 7, 8, 9, 10, 11], false⟩, ⟨0, false, [0, 1, 2, 3, 4, 5, 6, 7, 8, 9, 10, 11, 12], false⟩]) mix tt_ok (by kernel_rfl) ?_
          simp only [↓gFF, ↓nFF, exOp_eq, exD_nil, exD_cons, nxD_eq, cur_eq, gdV, flI, ownB, stepQ, ev, lk, putT, erA, inB, opt, bnd, req, ret, onQ, ap, binG, binF, strF, pickF, Kd.elem, ixA, asI, ldP, ldE, ldC, ldS, Kd.agg, comps, csize, takeI, takeC, dropC, fldF, thn_normal, inb_normal, and_true, true_and, and_self, Nat.reduceEqDiff, Nat.reduceLT, Nat.reduceLeDiff, Nat.reduceAdd, Nat.reduceSub, Nat.sub_self, Int.toNat_natCast, Nat.le_refl, Nat.zero_add, if_true, if_false, Bool.false_eq_true, reduceCtorEq, ne_eq, not_false_eq_true, List.getElem?_cons_zero, List.getElem?_cons_succ, Option.bind_some, Option.map_some, tt_9, tt_22, tt_24, tt_47, he, heH, hml, Int.toNat_natCast, hsq]
          repeat (refine ⟨by omega, ?_⟩)
          refine hK _ ?_
          clear hK K
          refine W.region tt_ok ?_
          simp only [exOps_nil, exOps_cons, exOp_eq, nx_eq, cur_eq, stepQ, ev, ofV, lk, putT, erA, inB, opt, bnd, req, ret, onQ, ap, binG, binF, intF, thn_normal, true_and, and_self, Nat.reduceEqDiff, Nat.reduceLT, Nat.reduceAdd, if_true, if_false, reduceCtorEq, wrap_up j (by omega)]
          refine hK4 _ (j + 1) (by omega) (by omega) ?_
          simp [hup, wk, leL, lk, nmT, nmE, nmH, AV.nmIn, Ent.nmIn, Row.nmIn]
      have hj' : j = H.length := by omega
      subst hj'
      have c2 : ¬ ((H.length : Nat) : Int) < (H.length : Nat) := by omega
      rw [htH]
      cases hb : H.any fun t => sEq t y.h with
      | true =>
        rw [hb, if_pos rfl] at hs
        refine W.seqK fun K0 hK0 => ?_
        refine W.seqK fun K hK => W.regionK tt_ok ?_
        simp only [decide_false, exOps_nil, exOps_cons, exOp_eq, exCall_eq, nx_eq, cur_eq, evL, stepQ, ev, lk, putT, erA, inB, opt, bnd, req, ret, onQ, ap, binG, binF, intF, bltQ, bltV, lenF, true_and, and_self, or_false, Nat.reduceEqDiff, Nat.reduceLT, Nat.reduceAdd, if_true, if_false, reduceCtorEq, List.getElem?_cons_zero, Option.bind_some, Option.map_some, tt_47, c2]
        refine hK _ ?_
        clear hK K
        refine W.cond (b := false) (by simp only [ev, lk, Nat.reduceEqDiff, if_true, if_false, reduceCtorEq]) (fun h => absurd h (by simp)) (fun _ => W.exit ?_)
        simp only [thn_normal, thn_exit, inb_exit, Nat.reduceEqDiff, if_true, if_false, reduceCtorEq]
        clear hK0 K0
        refine hKn _ ?_
        refine W.seqK fun K hK => W.regionK tt_ok ?_
        simp only [Bool.not_true, exOps_nil, exOps_cons, exOp_eq, nx_eq, cur_eq, stepQ, ev, lk, putT, erA, inB, opt, bnd, req, ret, onQ, ap, unF, true_and, and_self, Nat.reduceEqDiff, Nat.reduceLT, Nat.reduceAdd, if_true, if_false, reduceCtorEq]
        refine hK _ ?_
        clear hK K
        refine W.cond (b := false) (by simp only [ev, lk, Nat.reduceEqDiff, if_true, if_false, reduceCtorEq]) (fun h => absurd h (by simp)) (fun _ => W.skip ?_)
        simp only [thn_normal, inb_normal]
        refine hK _ ?_
        refine W.region tt_ok ?_
        simp only [exOps_nil, exOps_cons, exOp_eq, nx_eq, cur_eq, stepQ, ev, ofV, lk, putT, erA, inB, opt, bnd, req, ret, onQ, ap, binG, binF, intF, thn_normal, true_and, and_self, Nat.reduceEqDiff, Nat.reduceLT, Nat.reduceAdd, if_true, if_false, reduceCtorEq, wrap_up k (by omega)]
        refine hK3 _ (k + 1) 200 200 (by omega) (by omega) ⟨⟨by simp [Nm, lk], by simp [Nm, lk]⟩, by simp, by simp⟩ ?_
        simp [rhI, hT1, hs, St.swap, tmMap, enMap, swp, AV.map, Ent.map, Row.map, wk, leL, lk, nmT, nmE, nmH, AV.nmIn, Ent.nmIn, Row.nmIn]
      | false =>
        rw [hb, if_neg (by simp)] at hs
        refine W.seqK fun K0 hK0 => ?_
        refine W.seqK fun K hK => W.regionK tt_ok ?_
        simp only [decide_false, exOps_nil, exOps_cons, exOp_eq, exCall_eq, nx_eq, cur_eq, evL, stepQ, ev, lk, putT, erA, inB, opt, bnd, req, ret, onQ, ap, binG, binF, intF, bltQ, bltV, lenF, true_and, and_self, or_false, Nat.reduceEqDiff, Nat.reduceLT, Nat.reduceAdd, if_true, if_false, reduceCtorEq, List.getElem?_cons_zero, Option.bind_some, Option.map_some, tt_47, c2]
        refine hK _ ?_
        clear hK K
        refine W.cond (b := false) (by simp only [ev, lk, Nat.reduceEqDiff, if_true, if_false, reduceCtorEq]) (fun h => absurd h (by simp)) (fun _ => W.exit ?_)
        simp only [thn_normal, thn_exit, inb_exit, Nat.reduceEqDiff, if_true, if_false, reduceCtorEq]
        clear hK0 K0
        refine hKn _ ?_
        refine W.seqK fun K hK => W.regionK tt_ok ?_
        simp only [Bool.not_false, exOps_nil, exOps_cons, exOp_eq, nx_eq, cur_eq, stepQ, ev, lk, putT, erA, inB, opt, bnd, req, ret, onQ, ap, unF, true_and, and_self, Nat.reduceEqDiff, Nat.reduceLT, Nat.reduceAdd, if_true, if_false, reduceCtorEq]
        refine hK _ ?_
        clear hK K
        refine W.cond (b := true) (by simp only [ev, lk, Nat.reduceEqDiff, if_true, if_false, reduceCtorEq]) (fun _ => ?_) (fun h => absurd h (by simp))
        refine W.region tt_ok ?_
        simp only [exOps_nil, exOps_cons, exOp_eq, exCall_eq, nx_eq, cur_eq, evL, evP, stepQ, ev, lk, putT, erA, inB, opt, bnd, req, ret, onQ, ap, up, er, AV.isTup, AV.isAgg, Kd.elem, ixA, asI, ldP, ldC, ldS, Kd.agg, comps, szL, csize, takeI, takeC, dropC, stC, stS, fldF, bltQ, bltV, appR, appQ, appV, srcQ, Row.len, Row.sz, Row.take, Row.drop, Row.app, Ent.row, bldA, bslQ, zeroCs, cellsRow, strsOf, thn_normal, inb_normal, and_true, true_and, and_self, and_false, or_false, Nat.reduceEqDiff, Nat.reduceLT, Nat.reduceLeDiff, Nat.reduceAdd, Nat.reduceSub, Nat.reduceMul, Nat.sub_self, Int.toNat_natCast, Nat.le_refl, Nat.add_zero, Nat.zero_add, if_true, if_false, Bool.false_eq_true, reduceCtorEq, ne_eq, not_false_eq_true, List.getElem?_cons_zero, Option.bind_some, Option.map_some, List.append_nil, List.nil_append, tt_9, tt_22, tt_24, tt_47, he, hml, Int.toNat_natCast, lit1, List.flatten_cons, List.flatten_nil, List.length_cons, List.length_nil, ht1, htH]
        repeat (refine ⟨by omega, ?_⟩)
        refine hK _ ?_
        refine W.region tt_ok ?_
        simp only [exOps_nil, exOps_cons, exOp_eq, nx_eq, cur_eq, stepQ, ev, ofV, lk, putT, erA, inB, opt, bnd, req, ret, onQ, ap, binG, binF, intF, thn_normal, true_and, and_self, Nat.reduceEqDiff, Nat.reduceLT, Nat.reduceAdd, if_true, if_false, reduceCtorEq, wrap_up k (by omega)]
        refine hK3 _ (k + 1) 808 200 (by omega) (by omega) ⟨⟨by simp [Nm, lk], by simp [Nm, lk]⟩, by simp, by simp⟩ ?_
        simp [rhI, hT1, hs, St.swap, tmMap, enMap, swp, AV.map, Ent.map, Row.map, wk, leL, lk, nmT, nmE, nmH, AV.nmIn, Ent.nmIn, Row.nmIn]
  have hk' : k = l.length := by omega
  subst hk'
  have c1 : ¬ ((l.length : Nat) : Int) < (l.length : Nat) := by omega
  simp only [rhI, if_neg h0]
  refine W.seqK fun K0 hK0 => ?_
  refine W.seqK fun K hK => W.regionK tt_ok ?_
  simp only [decide_false, exOps_nil, exOps_cons, exOp_eq, exCall_eq, nx_eq, cur_eq, evL, stepQ, ev, lk, putT, erA, inB, opt, bnd, req, ret, onQ, ap, binG, binF, intF, bltQ, bltV, lenF, true_and, and_self, or_false, Nat.reduceEqDiff, Nat.reduceLT, Nat.reduceAdd, if_true, if_false, reduceCtorEq, List.getElem?_cons_zero, Option.bind_some, Option.map_some, tt_22, hml, c1]
  refine hK _ ?_
  clear hK K
  refine W.cond (b := false) (by simp only [ev, lk, Nat.reduceEqDiff, if_true, if_false, reduceCtorEq]) (fun h => absurd h (by simp)) (fun _ => W.exit ?_)
  simp only [thn_normal, thn_exit, inb_exit, if_true]
  clear hK0 K0
  refine hKx _ ?_
  refine W.seqK fun K hK => W.regionK tt_ok ?_
  simp only [exOps_nil, exOps_cons, exOp_eq, nx_eq, cur_eq, stepQ, ev, lk, putT, erA, inB, opt, ret, onQ, ap, true_and, Nat.reduceEqDiff, Nat.reduceLT, Nat.reduceAdd, if_true, if_false, reduceCtorEq]
  refine hK _ ?_
  clear hK K
  refine W.ret ?_
  simp only [fin_ret, finB, resQ, resV, leL, AV.nmIn, entsIn, lk, opt, bnd, req, ret, onQ, AV.isTup, and_true, true_and, and_self, Nat.reduceEqDiff, if_true, if_false, reduceCtorEq]
  simp [Nm, lk, Ent.nmIn, Row.nmIn]
theorem rheads (Y : Nat) (l : List It) (hl : l.length ≤ 1000000) (h0 : l.length ≠ 0) : FnR Try.prog G 21 [.lst 3 (l.map itV)] [] (.sl Y 1 0 (hdK l l.length).length) [(Y, .vec 9 (.strs (hdK l l.length)))] := by
  have h := (rheads0 l hl h0).rename 200 Y
  have e : swp 200 Y 200 = Y := by simp [swp]
  simpa only [AV.map, enMap, Ent.map, Row.map, e] using h
theorem rheads_none : FnR Try.prog G 21 [.lst 3 ([] : List AV)] [] .nils [] := by
  refine FnR.of_walk (m := 43) (n0 := 0) tt_ok Try.func21 rfl rfl (by simp) (by simp [nmH]) ?_
  rw [show Try.f21.results.toList = [.tmp 2] from rfl]
  refine W.seqK fun K hK => W.regionK tt_ok ?_
  simp only [exOps_nil, exOps_cons, exOp_eq, nx_eq, cur_eq, stepQ, ev, ofV, parT, putT, erA, inB, opt, ret, onQ, ap, true_and, Nat.reduceLT, Nat.zero_add, if_false, reduceCtorEq]
  refine hK _ ?_
  clear hK K
  refine W.seqK fun K hK => W.regionK tt_ok ?_
  simp only [exOps_nil, exOps_cons, exOp_eq, nx_eq, cur_eq, stepQ, ev, ofV, putT, erA, inB, opt, ret, onQ, ap, true_and, Nat.reduceEqDiff, Nat.reduceLT, Nat.reduceAdd, if_false, reduceCtorEq]
  refine hK _ ?_
  clear hK K
  refine W.seqK fun Kx hKx => ?_
  refine W.seqK fun K hK => W.regionK tt_ok ?_
  simp only [exOps_nil, exOps_cons, exOp_eq, nx_eq, cur_eq, stepQ, ev, ofV, putT, erA, inB, opt, ret, onQ, ap, true_and, Nat.reduceEqDiff, Nat.reduceLT, Nat.reduceAdd, if_false, reduceCtorEq]
  refine hK _ ?_
  clear hK K
  refine W.blockK ?_
  refine W.loopK (fun j : Nat => j = 0) (fun j => ⟨[(0, .lst 3 []), (3, .nils), (4, .int .i64 0)], [], 512, 43⟩) (fun j => 0) 0 (by simp) (by simp [wk, leL, lk, nmT, nmE, nmH, AV.nmIn]) ?_
  intro j hj K4 hK4
  have c1 : ¬ (0 : Int) < ((0 : Nat) : Int) := by decide
  refine W.seqK fun K0 hK0 => ?_
  refine W.seqK fun K hK => W.regionK tt_ok ?_
  simp only [decide_false, exOps_nil, exOps_cons, exOp_eq, exCall_eq, nx_eq, cur_eq, evL, stepQ, ev, lk, putT, erA, inB, opt, bnd, req, ret, onQ, ap, binG, binF, intF, bltQ, bltV, lenF, true_and, and_self, or_false, Nat.reduceEqDiff, Nat.reduceLT, Nat.reduceAdd, if_true, if_false, reduceCtorEq, List.getElem?_cons_zero, Option.bind_some, Option.map_some, tt_22, List.length_nil, c1]
  refine hK _ ?_
  clear hK K
  refine W.cond (b := false) (by simp only [ev, lk, Nat.reduceEqDiff, if_true, if_false, reduceCtorEq]) (fun h => absurd h (by simp)) (fun _ => W.exit ?_)
  simp only [thn_normal, thn_exit, inb_exit, if_true]
  clear hK0 K0
  refine hKx _ ?_
  refine W.seqK fun K hK => W.regionK tt_ok ?_
  simp only [exOps_nil, exOps_cons, exOp_eq, nx_eq, cur_eq, stepQ, ev, lk, putT, erA, inB, opt, ret, onQ, ap, true_and, Nat.reduceEqDiff, Nat.reduceLT, Nat.reduceAdd, if_true, if_false, reduceCtorEq]
  refine hK _ ?_
  clear hK K
  refine W.ret ?_
  simp only [fin_ret, finB, resQ, resV, leL, AV.nmIn, entsIn, lk, opt, bnd, req, ret, onQ, AV.isTup, and_self, Nat.reduceEqDiff, if_true, if_false, reduceCtorEq]
theorem call21 : Callable Try.prog 21 := ⟨_, Try.func21, by kernel_rfl, by kernel_rfl⟩
/-- The loop's rounds, told plainly. -/
theorem dpK_noH (h : ByteArray) (l : List It) : ∀ k, k ≤ l.length → dpK h l k = (l.take k).filter fun y => !sEq y.h h
  | 0, _ => by simp [dpK]
  | k + 1, hk => by
    have hlt : k < l.length := by omega
    have hg : l.getD k default = l[k] := by simp [List.getD_eq_getElem?_getD, hlt]
    rw [dpK, hg, dpK_noH h l k (by omega), List.take_succ_eq_append_getElem hlt, List.filter_append]
    cases hb : sEq l[k].h h <;> simp [hb]
theorem dpK_all (h : ByteArray) (l : List It) : dpK h l l.length = l.filter fun y => !sEq y.h h := by
  rw [dpK_noH h l _ (Nat.le_refl _), List.take_length]
theorem rdrop (Y : Nat) (l : List It) (h : ByteArray) (hl : l.length ≤ 1000000) : FnR Try.prog G 16 [.lst 3 (l.map itV), .str h] [] (.tup [dpV Y (dpK h l l.length).length, .int .i64 ((l.length : Int) - (dpK h l l.length).length)]) (dpE Y (dpK h l l.length)) := by
  have h := (rdrop0 l h hl).swap 200 Y
  have e : swp 200 Y 200 = Y := by simp [swp]
  generalize dpK _ _ _ = H at *
  by_cases h0 : H.length = 0
  · simpa only [dpV, dpE, if_pos h0, List.map_cons, List.map_nil, AV.map, AV.mapL, enMap, Ent.map, Row.map, ml_its, e] using h
  · simpa only [dpV, dpE, if_neg h0, List.map_cons, List.map_nil, AV.map, AV.mapL, enMap, Ent.map, Row.map, ml_its, e] using h
end Go.Proofs.Ythnkhdenkagceaa
