/- codec.Join. -/
import Derived.Test.YtbefcdgjainflaaHmD
import Derived.Test.YtbefcdgjainflaaHmE
-- TT 3 4 5 9 29 39 30 105 118 120 122
set_option linter.unusedVariables false
set_option linter.unusedSectionVars false
set_option linter.unusedSimpArgs false
namespace Go.Proofs.Ytbefcdgjainflaa
open Sx
variable [Inhabited Tabs]
set_option maxRecDepth 100000
set_option maxHeartbeats 4000000
def jS (s : ByteArray) : List Int := [IntKind.u8.wrap ((s.size : Int).fdiv (2 ^ min 8 IntKind.i64.bits)), IntKind.u8.wrap (s.size : Int)] ++ bytesOf s
def jP (kind : Int) (l : List ByteArray) (k : Nat) : List Int := [1, kind, IntKind.u8.wrap (l.length : Int)] ++ (l.take k).flatMap jS
theorem jP_le (kind : Int) (l : List ByteArray) (k : Nat) : (jP kind l k).length ≤ (jP kind l l.length).length := by
  rw [jP, jP, List.take_length]
  conv => rhs; rw [← List.take_append_drop k l]
  rw [List.flatMap_append]
  simp
theorem bytesOf_bytes (s : ByteArray) : ∀ x ∈ bytesOf s, 0 ≤ x ∧ x < 256 := by
  intro x hx
  simp only [bytesOf, List.mem_map] at hx
  obtain ⟨b, _, rfl⟩ := hx
  have := b.toNat_lt
  omega
theorem jP_bytes (kind : Int) (l : List ByteArray) (k : Nat) (hk : 0 ≤ kind ∧ kind < 256) : ∀ x ∈ jP kind l k, 0 ≤ x ∧ x < 256 := by
  have hw : ∀ x : Int, 0 ≤ IntKind.u8.wrap x ∧ IntKind.u8.wrap x < 256 := fun x => by rw [IntKind.wrap_u8]; omega
  intro x hx
  rw [jP, List.mem_append] at hx
  rcases hx with hx | hx
  · simp only [List.mem_cons, List.not_mem_nil, or_false] at hx
    rcases hx with rfl | rfl | rfl
    · omega
    · exact hk
    · exact hw _
  · rw [List.mem_flatMap] at hx
    obtain ⟨s, _, hx⟩ := hx
    rw [jS, List.mem_append] at hx
    rcases hx with hx | hx
    · simp only [List.mem_cons, List.not_mem_nil, or_false] at hx
      rcases hx with rfl | rfl <;> exact hw _
    · exact bytesOf_bytes s x hx
theorem join_ok (kind : Int) (l : List ByteArray) (h1 : l.length ≤ 255) (h2 : ∀ s ∈ l, s.size ≤ 4000) (h3 : (jP kind l l.length).length ≤ 30000) (hkd : 0 ≤ kind ∧ kind < 256) :
    FnR Try.prog G 64 [.int .u8 kind, .lstS l] [] (.tup [.str (strOf (jP kind l l.length)), .int .i64 0]) [] := by
  have c1 : ¬ (255 : Int) < l.length := by omega
  refine FnR.of_walkT (m := 49) tt_ok Try.func64 rfl rfl (by simp) ?_
  rw [show Try.f64.results.toList = [.tmp 4, .tmp 5] from rfl]
  refine W.seqK fun K hK => W.regionK tt_ok ?_
  simp only [exOps_nil, exOps_cons, exOp_eq, nx_eq, cur_eq, stepQ, ev, ofV, parT, putT, erA, inB, opt, ret, onQ, ap, true_and, Nat.reduceEqDiff, Nat.reduceLT, Nat.reduceAdd, Nat.zero_add, if_false, reduceCtorEq]
  refine hK _ ?_
  clear hK K
  refine W.seqK fun Ky hKy => ?_
  refine W.seqK fun K hK => W.regionK tt_ok ?_
  simp only [decide_false, exOps_nil, exOps_cons, exOp_eq, exCall_eq, nx_eq, cur_eq, evL, stepQ, ev, ofV, lk, putT, erA, inB, opt, bnd, req, ret, onQ, ap, binI, binG, binF, intF, bltQ, bltV, lenF, true_and, and_self, or_false, Nat.reduceEqDiff, Nat.reduceLT, Nat.reduceAdd, if_true, if_false, reduceCtorEq, List.getElem?_cons_zero, Option.bind_some, Option.map_some, tt_29, c1]
  refine hK _ ?_
  clear hK K
  refine W.cond (b := false) (by simp only [ev, lk, Nat.reduceEqDiff, if_true, if_false, reduceCtorEq]) (fun h => absurd h (by simp)) (fun _ => W.skip ?_)
  simp only [thn_normal]
  refine hKy _ ?_
  refine W.seqK fun K hK => W.regionK tt_ok ?_
  simp only [exOps_nil, exOps_cons, exOp_eq, nx_eq, cur_eq, evP, stepQ, ev, lk, putT, erA, inB, opt, bnd, req, ret, onQ, ap, up, er, AV.isTup, comps, bldF, bldS, and_true, true_and, and_self, Nat.reduceEqDiff, Nat.reduceLT, Nat.reduceAdd, if_true, if_false, reduceCtorEq, tt_120]
  refine ⟨by rfl, ?_⟩
  refine hK _ ?_
  clear hK K
  have cw : FnR Try.prog G 66 [.ptr 96 0 0 1, .lstI .u8 (List.take 3 (List.drop 0 [1, kind, IntKind.u8.wrap (l.length : Int)]))] [(96, .obj 120 (.agg [.nilp, .nils]))] (.tup [.int .i64 3, .nili]) [(96, .obj 120 (.agg [.ptr 96 0 0 1, .sl 224 1 0 3])), (224, .vec 5 (.ints .u8 [1, kind, IntKind.u8.wrap (l.length : Int)]))] := by
    have h := ((bw_nil [1, kind, IntKind.u8.wrap (l.length : Int)] (by simp) (by simp)).swap 0 96).swap 260 224
    simpa [AV.map, AV.mapL, enMap, Ent.map, Row.map, swp] using h
  refine W.seqK fun K hK => W.regionK tt_ok ?_
  simp only [exOps_cons, exOp_eq, exCall_eq, nx_eq, cur_eq, evL, evP, stepQ, ev, ofV, lk, putT, erA, inB, opt, bnd, req, ret, onQ, ap, up, er, AV.isTup, AV.isAgg, intsOf, Kd.agg, comps, szL, csize, takeI, takeC, dropC, stC, stS, bltQ, bltV, lenF, cvQ, Row.len, Row.sz, bldA, bslQ, zeroCs, cellsRow, and_true, true_and, and_self, and_false, or_false, Nat.reduceEqDiff, Nat.reduceLT, Nat.reduceLeDiff, Nat.reduceAdd, Nat.reduceSub, Nat.reduceMul, Nat.sub_self, Nat.le_refl, Nat.add_zero, Nat.zero_add, if_true, if_false, Bool.false_eq_true, reduceCtorEq, List.getElem?_cons_zero, Option.bind_some, Option.map_some, List.append_nil, List.nil_append, List.cons_append, tt_3, tt_5, tt_29, tt_39, lit3, List.set_cons_zero, List.set_cons_succ, List.length_cons, List.length_nil]
  refine CallK.with [(96, .obj 120 (.agg [.nilp, .nils]))] [(96, .obj 120 (.agg [.ptr 96 0 0 1, .sl 224 1 0 3])), (224, .vec 5 (.ints .u8 [1, kind, IntKind.u8.wrap (l.length : Int)]))] _ _ cw call66 (by simp only [Bool.or_true, Bool.or_false, AV.nmIn, lk, opt, bnd, req, ret, onQ, AV.isTup, isTupL, Ent.row, and_true, true_and, and_self, Nat.reduceEqDiff, Nat.zero_add, if_true, if_false, forall_const, List.append_nil, vw.vwL, vw, viewR, AV.free, AV.freeL, Ent.row, Bool.or_self]; all_goals (and_intros <;> first | exact AV.subL_refl _ | omega | (simp [AV.sub, entsFree, Ent.free, Row.free]; done) | rfl | (simp [AV.subL_refl]; done))) (by simp [leL, lk]) (by intro n hn; first | (left; revert hn; simp [Nm, lk]; done) | (right; revert hn; simp only [Nm, lk]; split <;> simp <;> omega) | (by_cases h1 : Nm [(96, .obj 120 (.agg [.nilp, .nils]))] n; exact .inl h1; right; revert hn h1; simp only [Nm, lk]; split <;> (try split) <;> (try split) <;> (try split) <;> (try simp) <;> (try omega))) (by simp [entsIn, Ent.nmIn, AV.nmIn, AV.nmInL]) ?_
  simp only [callDel, exOps_nil, nx_eq, putT, erA, ap, up, er, Nat.reduceEqDiff, Nat.reduceAdd, if_true, if_false, reduceCtorEq, List.nil_append, List.cons_append, List.map_cons, List.map_nil, List.reverse_cons, List.reverse_nil]
  refine hK _ ?_
  clear hK K
  refine W.seqK fun Kx hKx => ?_
  refine W.seqK fun K hK => W.regionK tt_ok ?_
  simp only [exOps_nil, exOps_cons, exOp_eq, exCall_eq, nx_eq, cur_eq, evL, stepQ, ev, ofV, lk, putT, erA, inB, opt, bnd, req, ret, onQ, ap, bltQ, bltV, lenF, true_and, and_self, or_false, Nat.reduceEqDiff, Nat.reduceLT, Nat.reduceAdd, if_true, if_false, reduceCtorEq, List.getElem?_cons_zero, Option.bind_some, Option.map_some, tt_29]
  refine hK _ ?_
  clear hK K
  refine W.blockK ?_
  refine W.loopS (fun k : Nat => k ≤ l.length) (fun k => ⟨[(6, .ptr 96 0 0 1), (21, .lstS l), (22, .int .i64 (l.length : Int)), (23, .int .i64 (k : Int))], [(96, .obj 120 (.agg [.ptr 96 0 0 1, .sl 224 1 0 (jP kind l k).length])), (224, .vec 5 (.ints .u8 (jP kind l k)))], 2048, 49⟩) (fun k => l.length - k) 0 (by simp) (by simp [wk, leL, lk, nmT, nmE, nmH, jP, AV.nmIn, AV.nmInL, Ent.nmIn, Row.nmIn]) ?_
  intro k hk K3 hK3
  by_cases hlt : k < l.length
  · have l1 : (k : Int) < (l.length : Int) := by omega
    have hs2 := h2 (l.getD k ByteArray.empty) (by rw [List.getD_eq_getElem?_getD, List.getElem?_eq_getElem hlt]; exact List.getElem_mem hlt)
    have hjk : jP kind l (k + 1) = jP kind l k ++ jS (l.getD k ByteArray.empty) := by
      rw [jP, jP, List.take_add_one, List.getElem?_eq_getElem hlt, List.flatMap_append, ← List.append_assoc]
      simp [List.getD_eq_getElem?_getD, List.getElem?_eq_getElem hlt]
    have hbl := Nat.le_trans (jP_le kind l k) h3
    generalize hgs : l.getD k ByteArray.empty = s at *
    generalize jP kind l k = bs at *
    have m1 : ¬ (4000 : Int) < s.size := by omega
    have hsl := bytesOf_len s
    rw [jS] at hjk
    generalize hga : IntKind.u8.wrap ((s.size : Int).fdiv (2 ^ min 8 IntKind.i64.bits)) = a at *
    generalize hgb : IntKind.u8.wrap (s.size : Int) = b at *
    have cw : FnR Try.prog G 66 [.ptr 96 0 0 1, .lstI .u8 (List.take 2 (List.drop 0 [a, b]))] [(96, .obj 120 (.agg [.ptr 96 0 0 1, .sl 224 1 0 bs.length])), (224, .vec 5 (.ints .u8 bs))] (.tup [.int .i64 2, .nili]) [(96, .obj 120 (.agg [.ptr 96 0 0 1, .sl 2304 1 0 (bs.length + 2)])), (2304, .vec 5 (.ints .u8 (bs ++ [a, b])))] := by
      have h := (((bw_own bs [a, b] (by simp; omega)).swap 0 96).swap 1 224).swap 260 2304
      simpa [AV.map, AV.mapL, enMap, Ent.map, Row.map, swp] using h
    have cs : FnR Try.prog G 67 [.ptr 96 0 0 1, .str s] [(96, .obj 120 (.agg [.ptr 96 0 0 1, .sl 2304 1 0 (bs.length + 2)])), (2304, .vec 5 (.ints .u8 (bs ++ [a, b])))] (.tup [.int .i64 s.size, .nili]) [(96, .obj 120 (.agg [.ptr 96 0 0 1, .sl 2352 1 0 (bs.length + 2 + (bytesOf s).length)])), (2352, .vec 5 (.ints .u8 (bs ++ [a, b] ++ bytesOf s)))] := by
      have h := (((bs_own (bs ++ [a, b]) s (by simp; omega)).swap 0 96).swap 1 2304).swap 260 2352
      simpa [AV.map, AV.mapL, enMap, Ent.map, Row.map, swp] using h
    refine W.seqK fun K hK => W.regionK tt_ok ?_
    simp only [decide_true, exOps_nil, exOps_cons, exOp_eq, nx_eq, cur_eq, stepQ, ev, lk, putT, erA, inB, opt, bnd, req, ret, onQ, ap, binI, binG, binF, intF, true_and, and_self, Nat.reduceEqDiff, Nat.reduceLT, Nat.reduceAdd, if_true, if_false, l1]
    refine hK _ ?_
    clear hK K
    refine W.seqK fun K hK => W.cond (b := true) (by simp only [ev, lk, Nat.reduceEqDiff, if_true, if_false]) (fun _ => W.skip ?_) (fun h => absurd h (by simp))
    rw [thn_normal]
    refine hK _ ?_
    clear hK K
    refine W.seqK fun K hK => W.blockK ?_
    refine W.seqK fun K hK => W.regionK tt_ok ?_
    simp only [exOps_nil, exOps_cons, exOp_eq, nx_eq, cur_eq, stepQ, ev, lk, putT, erA, inB, opt, bnd, req, ret, onQ, ap, Kd.elem, ixA, asI, ldP, ldC, ldS, Kd.agg, comps, csize, takeI, takeC, dropC, and_true, true_and, and_self, Nat.reduceEqDiff, Nat.reduceLT, Nat.reduceLeDiff, Nat.reduceAdd, Nat.reduceSub, Nat.sub_self, Int.toNat_natCast, Nat.le_refl, if_true, if_false, Bool.false_eq_true, reduceCtorEq, Option.bind_some, Option.map_some, tt_9, tt_29, hgs]
    refine ⟨by omega, ?_⟩
    refine hK _ ?_
    clear hK K
    refine W.seqK fun K5 hK5 => ?_
    refine W.seqK fun K hK => W.regionK tt_ok ?_
    simp only [decide_false, exOps_nil, exOps_cons, exOp_eq, exCall_eq, nx_eq, cur_eq, evL, stepQ, ev, ofV, lk, putT, erA, inB, opt, bnd, req, ret, onQ, ap, binI, binG, binF, intF, bltQ, bltV, lenF, true_and, and_self, or_false, Nat.reduceEqDiff, Nat.reduceLT, Nat.reduceAdd, if_true, if_false, List.getElem?_cons_zero, Option.bind_some, Option.map_some, tt_9, m1]
    refine hK _ ?_
    clear hK K
    refine W.cond (b := false) (by simp only [ev, lk, Nat.reduceEqDiff, if_true, if_false]) (fun h => absurd h (by simp)) (fun _ => W.skip ?_)
    simp only [thn_normal]
    refine hK5 _ ?_
    refine W.seqK fun K hK => W.regionK tt_ok ?_
    simp only [exOps_cons, exOp_eq, exCall_eq, nx_eq, cur_eq, evL, evP, stepQ, ev, ofV, lk, putT, erA, inB, opt, bnd, req, ret, onQ, ap, up, er, AV.isTup, AV.isAgg, binI, binG, binF, shiftF, intsOf, Kd.agg, comps, szL, csize, takeI, takeC, dropC, stC, stS, bltQ, bltV, lenF, cvQ, Row.len, Row.sz, bldA, bslQ, zeroCs, cellsRow, and_true, true_and, and_self, and_false, or_false, Nat.reduceEqDiff, Nat.reduceLT, Nat.reduceLeDiff, Nat.reduceAdd, Nat.reduceSub, Nat.reduceMul, Int.reduceLE, Int.reduceToNat, Nat.sub_self, Nat.le_refl, Nat.add_zero, Nat.zero_add, if_true, if_false, Bool.false_eq_true, reduceCtorEq, List.getElem?_cons_zero, Option.bind_some, Option.map_some, List.append_nil, List.nil_append, List.cons_append, tt_3, tt_5, tt_9, tt_39, lit2, List.set_cons_zero, List.set_cons_succ, List.length_cons, List.length_nil, hga, hgb]
    refine CallK.with [(96, .obj 120 (.agg [.ptr 96 0 0 1, .sl 224 1 0 bs.length])), (224, .vec 5 (.ints .u8 bs))] [(96, .obj 120 (.agg [.ptr 96 0 0 1, .sl 2304 1 0 (bs.length + 2)])), (2304, .vec 5 (.ints .u8 (bs ++ [a, b])))] _ _ cw call66 (by simp only [Bool.or_true, Bool.or_false, AV.nmIn, lk, opt, bnd, req, ret, onQ, AV.isTup, isTupL, Ent.row, and_true, true_and, and_self, Nat.reduceEqDiff, Nat.zero_add, if_true, if_false, forall_const, List.append_nil, vw.vwL, vw, viewR, AV.free, AV.freeL, Ent.row, Bool.or_self]; all_goals (and_intros <;> first | exact AV.subL_refl _ | omega | (simp [AV.sub, entsFree, Ent.free, Row.free]; done) | rfl | (simp [AV.subL_refl]; done))) (by simp [leL, lk]) (by intro n hn; first | (left; revert hn; simp [Nm, lk]; done) | (right; revert hn; simp only [Nm, lk]; split <;> simp <;> omega) | (by_cases h1 : Nm [(96, .obj 120 (.agg [.ptr 96 0 0 1, .sl 224 1 0 bs.length])), (224, .vec 5 (.ints .u8 bs))] n; exact .inl h1; right; revert hn h1; simp only [Nm, lk]; split <;> (try split) <;> (try split) <;> (try split) <;> (try simp) <;> (try omega))) (by simp [entsIn, Ent.nmIn, Row.nmIn, AV.nmIn, AV.nmInL, Nm, lk]) ?_
    simp only [callDel, exOps_nil, nx_eq, putT, erA, ap, up, er, Nat.reduceEqDiff, Nat.reduceAdd, if_true, if_false, List.nil_append, List.cons_append, List.map_cons, List.map_nil, List.reverse_cons, List.reverse_nil]
    refine hK _ ?_
    clear hK K
    refine W.region tt_ok ?_
    simp only [exOps_cons, exOp_eq, exCall_eq, nx_eq, cur_eq, evL, stepQ, ev, lk, putT, erA, inB, opt, ret, onQ, ap, true_and, Nat.reduceEqDiff, Nat.reduceLT, Nat.reduceAdd, if_true, if_false, Option.bind_some, Option.map_some]
    refine CallK.with [(96, .obj 120 (.agg [.ptr 96 0 0 1, .sl 2304 1 0 (bs.length + 2)])), (2304, .vec 5 (.ints .u8 (bs ++ [a, b])))] [(96, .obj 120 (.agg [.ptr 96 0 0 1, .sl 2352 1 0 (bs.length + 2 + (bytesOf s).length)])), (2352, .vec 5 (.ints .u8 (bs ++ [a, b] ++ bytesOf s)))] _ _ cs call67 (by simp only [AV.nmIn, bnd, req, ret, onQ, AV.isTup, isTupL, and_true, true_and, and_self, Bool.false_eq_true, List.append_nil, vw.vwL, vw, AV.free, AV.freeL, Bool.or_self]; all_goals (and_intros <;> first | exact AV.subL_refl _ | omega | (simp [AV.sub, entsFree, Ent.free, Row.free]; done) | rfl | (simp [AV.subL_refl]; done))) (by simp [leL, lk]) (by intro n hn; first | (left; revert hn; simp [Nm, lk]; done) | (right; revert hn; simp only [Nm, lk]; split <;> simp <;> omega) | (by_cases h1 : Nm [(96, .obj 120 (.agg [.ptr 96 0 0 1, .sl 2304 1 0 (bs.length + 2)])), (2304, .vec 5 (.ints .u8 (bs ++ [a, b])))] n; exact .inl h1; right; revert hn h1; simp only [Nm, lk]; split <;> (try split) <;> (try split) <;> (try split) <;> (try simp) <;> (try omega))) (by simp [entsIn, Ent.nmIn, Row.nmIn, AV.nmIn, AV.nmInL, Nm, lk]) ?_
    simp only [callDel, exOps_nil, nx_eq, putT, erA, ap, up, er, thn_normal, inb_normal, Nat.reduceEqDiff, Nat.reduceAdd, if_true, if_false, List.nil_append, List.cons_append, List.map_cons, List.map_nil, List.reverse_cons, List.reverse_nil]
    refine hK _ ?_
    refine W.region tt_ok ?_
    simp only [exOps_nil, exOps_cons, exOp_eq, nx_eq, cur_eq, stepQ, ev, ofV, lk, putT, erA, inB, opt, bnd, req, ret, onQ, ap, binI, binG, binF, intF, thn_normal, true_and, and_self, Nat.reduceEqDiff, Nat.reduceLT, Nat.reduceAdd, if_true, if_false]
    refine hK3 _ (k + 1) 2352 224 (by omega) (by omega) ⟨⟨by simp [Nm, lk], by simp [Nm, lk]⟩, by simp, by simp⟩ ?_
    simp [hjk, St.swap, tmMap, enMap, swp, AV.map, AV.mapL, Ent.map, Row.map, wk, leL, lk, nmT, nmE, nmH, AV.nmIn, AV.nmInL, Ent.nmIn, Row.nmIn]
    exact ⟨by rw [IntKind.wrap_i64]; omega, by omega⟩
  · obtain rfl : k = l.length := by omega
    have l1 : ¬ ((l.length : Nat) : Int) < (l.length : Int) := by omega
    have hB := jP_bytes kind l l.length hkd
    have hne : jP kind l l.length ≠ [] := by simp [jP]
    generalize jP kind l l.length = bs at *
    have cl : FnR Try.prog G 68 [.ptr 96 0 0 1] [(96, .obj 120 (.agg [.ptr 96 0 0 1, .sl 224 1 0 bs.length])), (224, .vec 5 (.ints .u8 bs))] (.int .i64 bs.length) [(96, .obj 120 (.agg [.ptr 96 0 0 1, .sl 224 1 0 bs.length])), (224, .vec 5 (.ints .u8 bs))] := by
      have h := ((blen_fn bs).swap 0 96).swap 1 224
      simpa [AV.map, AV.mapL, enMap, Ent.map, Row.map, swp] using h
    have ct := bstr_fn 96 224 (by omega) bs hne hB
    have m2 : ¬ (30000 : Int) < bs.length := by omega
    refine W.seqK fun K hK => W.regionK tt_ok ?_
    simp only [decide_false, exOps_nil, exOps_cons, exOp_eq, nx_eq, cur_eq, stepQ, ev, lk, putT, erA, inB, opt, bnd, req, ret, onQ, ap, binI, binG, binF, intF, true_and, and_self, Nat.reduceEqDiff, Nat.reduceLT, Nat.reduceAdd, if_true, if_false, l1]
    refine hK _ ?_
    clear hK K
    refine W.seqK fun K hK => W.cond (b := false) (by simp only [ev, lk, Nat.reduceEqDiff, if_true, if_false]) (fun h => absurd h (by simp)) (fun _ => W.exit ?_)
    simp only [thn_normal, thn_exit, inb_exit, if_true]
    clear hK K
    refine hKx _ ?_
    refine W.seqK fun K6 hK6 => ?_
    refine W.seqK fun K hK => W.regionK tt_ok ?_
    simp only [exOps_cons, exOp_eq, exCall_eq, nx_eq, cur_eq, evL, stepQ, ev, lk, putT, erA, inB, opt, ret, onQ, ap, true_and, Nat.reduceEqDiff, Nat.reduceLT, Nat.reduceAdd, if_true, if_false, Option.bind_some, Option.map_some]
    refine CallK.with [(96, .obj 120 (.agg [.ptr 96 0 0 1, .sl 224 1 0 bs.length])), (224, .vec 5 (.ints .u8 bs))] [(96, .obj 120 (.agg [.ptr 96 0 0 1, .sl 224 1 0 bs.length])), (224, .vec 5 (.ints .u8 bs))] _ _ cl call68 (by simp only [AV.nmIn, bnd, req, ret, onQ, AV.isTup, isTupL, and_true, true_and, and_self, Bool.false_eq_true, List.append_nil, vw.vwL, vw, AV.free, Bool.or_self]; all_goals (and_intros <;> first | exact AV.subL_refl _ | omega | (simp [AV.sub, entsFree, Ent.free, Row.free]; done) | rfl | (simp [AV.subL_refl]; done))) (by simp [leL, lk]) (by intro n hn; first | (left; revert hn; simp [Nm, lk]; done) | (right; revert hn; simp only [Nm, lk]; split <;> simp <;> omega) | (by_cases h1 : Nm [(96, .obj 120 (.agg [.ptr 96 0 0 1, .sl 224 1 0 bs.length])), (224, .vec 5 (.ints .u8 bs))] n; exact .inl h1; right; revert hn h1; simp only [Nm, lk]; split <;> (try split) <;> (try split) <;> (try split) <;> (try simp) <;> (try omega))) (by simp [entsIn, Ent.nmIn, Row.nmIn, AV.nmIn, AV.nmInL, Nm, lk]) ?_
    simp only [callDel, decide_false, exOps_nil, exOps_cons, exOp_eq, nx_eq, cur_eq, stepQ, ev, ofV, lk, putT, erA, inB, opt, bnd, req, ret, onQ, ap, up, er, binI, binG, binF, intF, true_and, and_self, Nat.reduceEqDiff, Nat.reduceLT, Nat.reduceAdd, if_true, if_false, List.nil_append, List.cons_append, List.map_cons, List.map_nil, List.reverse_cons, List.reverse_nil, m2]
    refine hK _ ?_
    clear hK K
    refine W.cond (b := false) (by simp only [ev, lk, Nat.reduceEqDiff, if_true, if_false]) (fun h => absurd h (by simp)) (fun _ => W.skip ?_)
    simp only [thn_normal]
    refine hK6 _ ?_
    refine W.seqK fun K hK => W.regionK tt_ok ?_
    simp only [exOps_cons, exOp_eq, exCall_eq, nx_eq, cur_eq, evL, stepQ, ev, lk, putT, erA, inB, opt, ret, onQ, ap, true_and, Nat.reduceEqDiff, Nat.reduceLT, Nat.reduceAdd, if_true, if_false, Option.bind_some, Option.map_some]
    refine CallK.with [(96, .obj 120 (.agg [.ptr 96 0 0 1, .sl 224 1 0 bs.length])), (224, .vec 5 (.ints .u8 bs))] [] _ _ ct call69 (by simp only [AV.nmIn, bnd, req, ret, onQ, AV.isTup, isTupL, and_true, true_and, and_self, Bool.false_eq_true, List.append_nil, vw.vwL, vw, AV.free, Bool.or_self]; all_goals (and_intros <;> first | exact AV.subL_refl _ | omega | (simp [AV.sub, entsFree]; done) | rfl | (simp [AV.subL_refl]; done))) (by simp [leL, lk]) (by intro n hn; first | (left; revert hn; simp [Nm, lk]; done) | (right; revert hn; simp only [Nm, lk]; split <;> simp <;> omega) | (by_cases h1 : Nm [(96, .obj 120 (.agg [.ptr 96 0 0 1, .sl 224 1 0 bs.length])), (224, .vec 5 (.ints .u8 bs))] n; exact .inl h1; right; revert hn h1; simp only [Nm, lk]; split <;> (try split) <;> (try split) <;> (try split) <;> (try simp) <;> (try omega))) (by simp [entsIn, Ent.nmIn, Row.nmIn, AV.nmIn, AV.nmInL, Nm, lk]) ?_
    simp only [callDel, exOps_nil, exOps_cons, exOp_eq, nx_eq, cur_eq, stepQ, ev, ofV, lk, putT, erA, inB, opt, ret, onQ, ap, up, er, true_and, Nat.reduceEqDiff, Nat.reduceLT, Nat.reduceAdd, if_true, if_false, List.append_nil, List.map_cons, List.map_nil, List.reverse_nil]
    refine hK _ ?_
    clear hK K
    refine W.ret ?_
    simp only [finT_ret, finTB, resQ, lk, opt, bnd, req, ret, onQ, AV.isTup, true_and, and_self, Nat.reduceEqDiff, if_true, if_false, ne_eq]
    simp [vw, vw.vwL, bnd, req, ret, AV.nmIn]
end Go.Proofs.Ytbefcdgjainflaa
