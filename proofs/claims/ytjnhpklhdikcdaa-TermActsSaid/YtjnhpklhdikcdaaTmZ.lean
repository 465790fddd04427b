/- What the document fixes of terms. (printed by genZ.py) -/
import Derived.Test.YtjnhpklhdikcdaaTmY
-- TT 3 4 5 9 24 28 35 47 51 53 63 74
-- SIMP beq_self_eq_true hi1 hi2 hi5
set_option linter.unusedVariables false
set_option linter.unusedSimpArgs false
namespace Go.Proofs.Ytjnhpklhdikcdaa
open Sx
set_option maxRecDepth 100000
set_option maxHeartbeats 4000000
theorem hi1 : (((1 : Nat) : Int) == 1) = true := rfl
theorem hi2 : (0 < ((1 : Nat) : Int)) = True := by simp
theorem hi5 : (((5 : Nat) : Int) == 5) = true := rfl
theorem alive_fn : FnR Try.prog G 9 [] [] (.bool true) [] := by
  have ne1 : [e1] ≠ [] := by simp
  have ne2 : [e1, e2] ≠ [] := by simp
  have ne3 : [e1, e2, e3] ≠ [] := by simp
  have ne4 : [e1, e2, e3, e4] ≠ [] := by simp
  have ne5 : [e1, e2, e3, e4, e5] ≠ [] := by simp
  have as1 : ∀ s : ByteArray, ∀ x ∈ [AV.ptr 0 0 0 1, AV.str s], stay x := by
    intro s x hx
    simp only [List.mem_cons, List.not_mem_nil, or_false] at hx
    rcases hx with rfl | rfl
    · exact stay_ptr
    · exact stay_str _
  have as2 : ∀ s t : ByteArray, ∀ x ∈ [AV.ptr 0 0 0 1, AV.str s, AV.str t], stay x := by
    intro s t x hx
    simp only [List.mem_cons, List.not_mem_nil, or_false] at hx
    rcases hx with rfl | rfl | rfl
    · exact stay_ptr
    · exact stay_str _
    · exact stay_str _
  have okA : okP [tA] := ok1 _ (by decide)
  have okB : okP [tB] := ok1 _ (by decide)
  have c1 : FnR Try.prog G 18 [.ptr 0 0 0 1, .str tA] (tabE []) (.str (nmS 1)) (tbX 112 [e1]) := mv0 992 112 (by omega) (by omega) (by omega) rfl (atomT_01 tA okA)
  have c2 : FnR Try.prog G 18 [.ptr 0 0 0 1, .str tB] (tbX 112 [e1]) (.str (nmS 2)) (tbX 144 [e1, e2]) := by
    have h := atomT_11 tB [e1] ne1 (by simp)
    rw [(put_none okB i2).1, (put_none okB i2).2] at h
    exact renT 112 144 (by omega) (by omega) (by omega) (by omega) (as1 _) (stay_str _) h
  have c3 : FnR Try.prog G 19 [.ptr 0 0 0 1, .str (nmS 1)] (tbX 144 [e1, e2]) (.str (nmS 3)) (tbX 224 [e1, e2, e3]) := by
    have h := pubT_11 (nmS 1) [e1, e2] ne2 (by simp)
    rw [(put_none (okn 1) i3).1, (put_none (okn 1) i3).2] at h
    exact renT 144 224 (by omega) (by omega) (by omega) (by omega) (as1 _) (stay_str _) h
  have c4 : FnR Try.prog G 21 [.ptr 0 0 0 1, .str (nmS 2), .str (nmS 3)] (tbX 224 [e1, e2, e3]) (.tup [.str (nmS 4), .bool true]) (tbX 304 [e1, e2, e3, e4]) := by
    have h := dhT_have [e1, e2, e3] ne3 (by simp) (nmS 2) (nmS 3) (nmS 1) [] ⟨by omega, by simp, by simp, okn 1⟩ (tmL_get [e1, e2, e3] (by simp) 2 (by simp))
    rw [s21, (put_none (okn2 1 2) i4).1, (put_none (okn2 1 2) i4).2, nB_nm] at h
    exact renT 224 304 (by omega) (by omega) (by omega) (by omega) (as2 _ _) (stay_sb _ _) h
  have c5 : FnR Try.prog G 19 [.ptr 0 0 0 1, .str (nmS 2)] (tbX 304 [e1, e2, e3, e4]) (.str (nmS 5)) (tbX 464 [e1, e2, e3, e4, e5]) := by
    have h := pubT_11 (nmS 2) [e1, e2, e3, e4] ne4 (by simp)
    rw [(put_none (okn 2) i5).1, (put_none (okn 2) i5).2] at h
    exact renT 304 464 (by omega) (by omega) (by omega) (by omega) (as1 _) (stay_str _) h
  have c6 : FnR Try.prog G 21 [.ptr 0 0 0 1, .str (nmS 1), .str (nmS 5)] (tbX 464 [e1, e2, e3, e4, e5]) (.tup [.str (nmS 4), .bool true]) (tbX 480 [e1, e2, e3, e4, e5]) := by
    have h := dhT_have [e1, e2, e3, e4, e5] ne5 (by simp) (nmS 1) (nmS 5) (nmS 2) [] ⟨by omega, by simp, by simp, okn 2⟩ (tmL_get [e1, e2, e3, e4, e5] (by simp) 4 (by simp))
    rw [s12, (put_some (okn2 1 2) i6).1, (put_some (okn2 1 2) i6).2, nB_nm] at h
    exact renT 464 480 (by omega) (by omega) (by omega) (by omega) (as2 _ _) (stay_sb _ _) h
  have c7 : FnR Try.prog G 21 [.ptr 0 0 0 1, .str (nmS 1), .str (nmS 2)] (tbX 480 [e1, e2, e3, e4, e5]) (.tup [.str eS, .bool false]) (tbX 480 [e1, e2, e3, e4, e5]) :=
    renS 480 (by omega) (as2 _ _) (stay_sb _ _) (dhT_oth [e1, e2, e3, e4, e5] ne5 (nmS 1) (nmS 2) 1 tB [] ⟨by omega, by simp, by simp, okB⟩ (by omega) (tmL_get [e1, e2, e3, e4, e5] (by simp) 1 (by simp)))
  have c8 : FnR Try.prog G 15 [.ptr 0 0 0 1, .str (nmS 3)] (tbX 480 [e1, e2, e3, e4, e5]) (.tup [.int .u8 2, .lstS [nmS 1], .bool true]) (tbX 480 [e1, e2, e3, e4, e5]) :=
    renS 480 (by omega) (as1 _) (fun _ _ _ _ => rfl) (partsT_have [e1, e2, e3, e4, e5] ne5 (nmS 3) 2 (nmS 1) [] ⟨by omega, by simp, by simp, okn 1⟩ (tmL_get [e1, e2, e3, e4, e5] (by simp) 2 (by simp)))
  have c9 : FnR Try.prog G 18 [.ptr 0 0 0 1, .str tA] (tbX 480 [e1, e2, e3, e4, e5]) (.str (nmS 1)) (tbX 960 [e1, e2, e3, e4, e5]) := by
    have h := atomT_11 tA [e1, e2, e3, e4, e5] ne5 (by simp)
    rw [(put_some okA i7).1, (put_some okA i7).2] at h
    exact renT 480 960 (by omega) (by omega) (by omega) (by omega) (as1 _) (stay_str _) h
  have c10 : FnR Try.prog G 14 [.ptr 0 0 0 1] (tbX 960 [e1, e2, e3, e4, e5]) (.sl 1680 1 0 5) ((1680, .vec 9 (.strs (alL [e1, e2, e3, e4, e5]))) :: tbX 960 [e1, e2, e3, e4, e5]) := by
    have h := ((all_1 [e1, e2, e3, e4, e5] ne5 (by simp)).swap 3 960).swap 144 1680
    simpa [tbX, AV.map, AV.mapL, enMap, Ent.map, Row.map, swp] using h
  have r1 := rname_fn 1 (by omega)
  have r3 := rname_fn 3 (by omega)
  have cn := ((new_fn.rename 64 33).rename 16 34).rename 32 35
  simp [AV.map, AV.mapL, enMap, Ent.map, swp] at cn
  have hq1 : [e1].length = 1 := rfl
  have hq2 : [e1, e2].length = 2 := rfl
  have hq3 : [e1, e2, e3].length = 3 := rfl
  have hq4 : [e1, e2, e3, e4].length = 4 := rfl
  have hq5 : [e1, e2, e3, e4, e5].length = 5 := rfl
  generalize hl5 : [e1, e2, e3, e4, e5] = l5 at *
  generalize hl4 : [e1, e2, e3, e4] = l4 at *
  generalize hl3 : [e1, e2, e3] = l3 at *
  generalize hl2 : [e1, e2] = l2 at *
  generalize hl1 : [e1] = l1 at *
  simp only [tabE, tbX, hq1, hq2, hq3, hq4, hq5] at c1 c2 c3 c4 c5 c6 c7 c8 c9 c10
  have hal : (alL l5).length = 5 := by rw [alL_len, hq5]
  generalize nmS 1 = n1 at *
  generalize nmS 2 = n2 at *
  generalize nmS 3 = n3 at *
  generalize nmS 4 = n4 at *
  generalize nmS 5 = n5 at *
  refine FnR.of_walk (m := 108) (n0 := 16) tt_ok Try.func9 rfl rfl (by simp) (by simp [nmH]) ?_
  rw [show Try.f9.results.toList = [.tmp 0] from rfl]
  refine W.seqK fun K hK => W.regionK tt_ok ?_
  simp only [exOps_nil, exOps_cons, exOp_eq, nx_eq, cur_eq, stepQ, ev, ofV, parT, putT, erA, inB, opt, ret, onQ, ap, true_and, Nat.reduceLT, Nat.reduceAdd]
  refine hK _ ?_
  clear hK K
  refine W.seqK fun K hK => W.regionK tt_ok ?_
  simp only [exOps_cons, exOp_eq, exCall_eq, evL, ev, inB, true_and, Nat.reduceLT]
  refine CallK.with [] [(33, .obj 53 (.agg [.mp 34, .mp 35, .nils])), (34, .mset (.strs [])), (35, .mset (.strs []))] _ _ cn call10 (by simp only [ret, onQ, isTupL, true_and, Bool.false_eq_true, List.append_nil, vw.vwL, AV.free]; all_goals (and_intros <;> first | exact AV.subL_refl _ | omega | (simp [entsFree, Ent.free]; done) | rfl | (simp [AV.subL_refl]; done))) (by simp [leL]) (by intro n hn; first | (left; revert hn; simp [Nm, lk]; done) | (right; revert hn; simp only [Nm, lk]; split <;> simp <;> omega) | (by_cases h1 : Nm [] n; exact .inl h1; right; revert hn h1; simp only [Nm, lk]; split <;> (try split) <;> (try split) <;> (try split) <;> (try simp) <;> (try omega))) (by simp [entsIn]) ?_
  simp only [callDel, exOps_nil, exOps_cons, exOp_eq, nx_eq, cur_eq, stepQ, ev, lk, putT, erA, inB, opt, ret, onQ, ap, up, er, true_and, Nat.reduceEqDiff, Nat.reduceLT, Nat.reduceAdd, if_true, if_false, reduceCtorEq, List.nil_append, List.cons_append, List.map_cons, List.map_nil, List.reverse_cons, List.reverse_nil]
  refine hK _ ?_
  clear hK K
  refine W.swap 0 33 (by simp [Nm, lk]) ?_
  refine W.swap 1 34 (by simp [Nm, lk, St.swap]) ?_
  refine W.swap 2 35 (by simp [Nm, lk, St.swap]) ?_
  simp [St.swap, tmMap, enMap, swp, AV.map, AV.mapL, Ent.map]
  refine W.seqK fun Kx hKx => ?_
  refine W.seqK fun K hK => W.regionK tt_ok ?_
  simp only [exOps_nil, exOps_cons, exOp_eq, nx_eq, cur_eq, stepQ, ev, ofV, lk, putT, erA, inB, opt, bnd, req, ret, onQ, ap, binG, eqOp, true_and, and_self, Nat.reduceEqDiff, Nat.reduceLT, Nat.reduceAdd, if_true, if_false, reduceCtorEq, tt_24]
  refine hK _ ?_
  clear hK K
  refine W.cond (b := false) (by simp only [ev, lk, Nat.reduceEqDiff, if_true, if_false, reduceCtorEq]) (fun h => absurd h (by simp)) (fun _ => W.skip ?_)
  simp only [thn_normal]
  refine hKx _ ?_
  refine W.seqK fun K hK => W.regionK tt_ok ?_
  simp only [exOps_cons, exOp_eq, exCall_eq, nx_eq, cur_eq, evL, stepQ, ev, ofV, lk, putT, erA, inB, opt, ret, onQ, ap, true_and, Nat.reduceEqDiff, Nat.reduceLT, Nat.reduceAdd, if_true, if_false, reduceCtorEq, Option.bind_some, Option.map_some]
  refine CallK.with [(0, .obj 53 (.agg [.mp 1, .mp 2, .nils])), (1, .mset (.strs [])), (2, .mset (.strs []))] [(0, .obj 53 (.agg [.mp 1, .mp 2, .sl 112 1 0 1])), (1, .mset (.strs (nmL l1))), (2, .mset (.strs (tmL l1))), (112, .vec 9 (.strs (alL l1)))] _ _ c1 call18 (by simp only [AV.nmIn, bnd, req, ret, onQ, AV.isTup, isTupL, and_true, true_and, and_self, Bool.false_eq_true, List.append_nil, vw.vwL, vw, AV.free, Bool.or_self]; all_goals (and_intros <;> first | exact AV.subL_refl _ | omega | (simp [AV.sub, entsFree, Ent.free, Row.free]; done) | rfl | (simp [AV.subL_refl]; done))) (by simp [leL, lk]) (by intro n hn; first | (left; revert hn; simp [Nm, lk]; done) | (right; revert hn; simp only [Nm, lk]; split <;> simp <;> omega) | (by_cases h1 : Nm [(0, .obj 53 (.agg [.mp 1, .mp 2, .nils])), (1, .mset (.strs [])), (2, .mset (.strs []))] n; exact .inl h1; right; revert hn h1; simp only [Nm, lk]; split <;> (try split) <;> (try split) <;> (try split) <;> (try simp) <;> (try omega))) (by simp [entsIn, Ent.nmIn, AV.nmIn, AV.nmInL, Nm, lk]) ?_
  simp only [callDel, exOps_cons, exOp_eq, exCall_eq, nx_eq, cur_eq, evL, stepQ, ev, ofV, lk, putT, erA, inB, opt, ret, onQ, ap, up, er, true_and, Nat.reduceEqDiff, Nat.reduceLT, Nat.reduceAdd, if_true, if_false, reduceCtorEq, Option.bind_some, Option.map_some, List.nil_append, List.cons_append, List.map_cons, List.map_nil, List.reverse_cons, List.reverse_nil]
  refine CallK.with [(0, .obj 53 (.agg [.mp 1, .mp 2, .sl 112 1 0 1])), (1, .mset (.strs (nmL l1))), (2, .mset (.strs (tmL l1))), (112, .vec 9 (.strs (alL l1)))] [(0, .obj 53 (.agg [.mp 1, .mp 2, .sl 144 1 0 2])), (1, .mset (.strs (nmL l2))), (2, .mset (.strs (tmL l2))), (144, .vec 9 (.strs (alL l2)))] _ _ c2 call18 (by simp only [AV.nmIn, bnd, req, ret, onQ, AV.isTup, isTupL, and_true, true_and, and_self, Bool.false_eq_true, List.append_nil, vw.vwL, vw, AV.free, Bool.or_self]; all_goals (and_intros <;> first | exact AV.subL_refl _ | omega | (simp [AV.sub, entsFree, Ent.free, Row.free]; done) | rfl | (simp [AV.subL_refl]; done))) (by simp [leL, lk]) (by intro n hn; first | (left; revert hn; simp [Nm, lk]; done) | (right; revert hn; simp only [Nm, lk]; split <;> simp <;> omega) | (by_cases h1 : Nm [(0, .obj 53 (.agg [.mp 1, .mp 2, .sl 112 1 0 1])), (1, .mset (.strs (nmL l1))), (2, .mset (.strs (tmL l1))), (112, .vec 9 (.strs (alL l1)))] n; exact .inl h1; right; revert hn h1; simp only [Nm, lk]; split <;> (try split) <;> (try split) <;> (try split) <;> (try simp) <;> (try omega))) (by simp [entsIn, Ent.nmIn, Row.nmIn, AV.nmIn, AV.nmInL, Nm, lk]) ?_
  simp only [callDel, exOps_nil, exOps_cons, exOp_eq, nx_eq, cur_eq, stepQ, ev, lk, putT, erA, inB, opt, ret, onQ, ap, up, er, true_and, Nat.reduceEqDiff, Nat.reduceLT, Nat.reduceAdd, if_true, if_false, reduceCtorEq, List.nil_append, List.cons_append, List.map_cons, List.map_nil, List.reverse_cons, List.reverse_nil]
  refine hK _ ?_
  clear hK K
  refine W.seqK fun K hK => W.regionK tt_ok ?_
  simp only [exOps_cons, exOp_eq, exCall_eq, nx_eq, cur_eq, evL, stepQ, ev, lk, putT, erA, inB, opt, ret, onQ, ap, true_and, Nat.reduceEqDiff, Nat.reduceLT, Nat.reduceAdd, if_true, if_false, reduceCtorEq, Option.bind_some, Option.map_some]
  refine CallK.with [(0, .obj 53 (.agg [.mp 1, .mp 2, .sl 144 1 0 2])), (1, .mset (.strs (nmL l2))), (2, .mset (.strs (tmL l2))), (144, .vec 9 (.strs (alL l2)))] [(0, .obj 53 (.agg [.mp 1, .mp 2, .sl 224 1 0 3])), (1, .mset (.strs (nmL l3))), (2, .mset (.strs (tmL l3))), (224, .vec 9 (.strs (alL l3)))] _ _ c3 call19 (by simp only [AV.nmIn, bnd, req, ret, onQ, AV.isTup, isTupL, and_true, true_and, and_self, Bool.false_eq_true, List.append_nil, vw.vwL, vw, AV.free, Bool.or_self]; all_goals (and_intros <;> first | exact AV.subL_refl _ | omega | (simp [AV.sub, entsFree, Ent.free, Row.free]; done) | rfl | (simp [AV.subL_refl]; done))) (by simp [leL, lk]) (by intro n hn; first | (left; revert hn; simp [Nm, lk]; done) | (right; revert hn; simp only [Nm, lk]; split <;> simp <;> omega) | (by_cases h1 : Nm [(0, .obj 53 (.agg [.mp 1, .mp 2, .sl 144 1 0 2])), (1, .mset (.strs (nmL l2))), (2, .mset (.strs (tmL l2))), (144, .vec 9 (.strs (alL l2)))] n; exact .inl h1; right; revert hn h1; simp only [Nm, lk]; split <;> (try split) <;> (try split) <;> (try split) <;> (try simp) <;> (try omega))) (by simp [entsIn, Ent.nmIn, Row.nmIn, AV.nmIn, AV.nmInL, Nm, lk]) ?_
  simp only [callDel, exOps_nil, exOps_cons, exOp_eq, nx_eq, cur_eq, stepQ, ev, lk, putT, erA, inB, opt, ret, onQ, ap, up, er, true_and, Nat.reduceEqDiff, Nat.reduceLT, Nat.reduceAdd, if_true, if_false, reduceCtorEq, List.nil_append, List.cons_append, List.map_cons, List.map_nil, List.reverse_cons, List.reverse_nil]
  refine hK _ ?_
  clear hK K
  refine W.seqK fun K hK => W.regionK tt_ok ?_
  simp only [exOps_cons, exOp_eq, exCall_eq, nx_eq, cur_eq, evL, stepQ, ev, lk, putT, erA, inB, opt, ret, onQ, ap, true_and, Nat.reduceEqDiff, Nat.reduceLT, Nat.reduceAdd, if_true, if_false, reduceCtorEq, Option.bind_some, Option.map_some]
  refine CallK.with [(0, .obj 53 (.agg [.mp 1, .mp 2, .sl 224 1 0 3])), (1, .mset (.strs (nmL l3))), (2, .mset (.strs (tmL l3))), (224, .vec 9 (.strs (alL l3)))] [(0, .obj 53 (.agg [.mp 1, .mp 2, .sl 304 1 0 4])), (1, .mset (.strs (nmL l4))), (2, .mset (.strs (tmL l4))), (304, .vec 9 (.strs (alL l4)))] _ _ c4 call21 (by simp only [AV.nmIn, bnd, req, ret, onQ, AV.isTup, isTupL, and_true, true_and, and_self, Bool.false_eq_true, List.append_nil, vw.vwL, vw, AV.free, AV.freeL, Bool.or_self]; all_goals (and_intros <;> first | exact AV.subL_refl _ | omega | (simp [AV.sub, entsFree, Ent.free, Row.free]; done) | rfl | (simp [AV.subL_refl]; done))) (by simp [leL, lk]) (by intro n hn; first | (left; revert hn; simp [Nm, lk]; done) | (right; revert hn; simp only [Nm, lk]; split <;> simp <;> omega) | (by_cases h1 : Nm [(0, .obj 53 (.agg [.mp 1, .mp 2, .sl 224 1 0 3])), (1, .mset (.strs (nmL l3))), (2, .mset (.strs (tmL l3))), (224, .vec 9 (.strs (alL l3)))] n; exact .inl h1; right; revert hn h1; simp only [Nm, lk]; split <;> (try split) <;> (try split) <;> (try split) <;> (try simp) <;> (try omega))) (by simp [entsIn, Ent.nmIn, Row.nmIn, AV.nmIn, AV.nmInL, Nm, lk]) ?_
  simp only [callDel, exOps_nil, exOps_cons, exOp_eq, nx_eq, cur_eq, stepQ, ev, lk, putT, erA, inB, opt, ret, onQ, ap, up, er, true_and, Nat.reduceEqDiff, Nat.reduceLT, Nat.reduceAdd, if_true, if_false, reduceCtorEq, List.getElem?_cons_zero, List.getElem?_cons_succ, List.nil_append, List.cons_append, List.map_cons, List.map_nil, List.reverse_cons, List.reverse_nil]
  refine hK _ ?_
  clear hK K
  refine W.seqK fun K hK => W.regionK tt_ok ?_
  simp only [exOps_cons, exOp_eq, exCall_eq, nx_eq, cur_eq, evL, stepQ, ev, lk, putT, erA, inB, opt, ret, onQ, ap, true_and, Nat.reduceEqDiff, Nat.reduceLT, Nat.reduceAdd, if_true, if_false, reduceCtorEq, Option.bind_some, Option.map_some]
  refine CallK.with [(0, .obj 53 (.agg [.mp 1, .mp 2, .sl 304 1 0 4])), (1, .mset (.strs (nmL l4))), (2, .mset (.strs (tmL l4))), (304, .vec 9 (.strs (alL l4)))] [(0, .obj 53 (.agg [.mp 1, .mp 2, .sl 464 1 0 5])), (1, .mset (.strs (nmL l5))), (2, .mset (.strs (tmL l5))), (464, .vec 9 (.strs (alL l5)))] _ _ c5 call19 (by simp only [AV.nmIn, bnd, req, ret, onQ, AV.isTup, isTupL, and_true, true_and, and_self, Bool.false_eq_true, List.append_nil, vw.vwL, vw, AV.free, Bool.or_self]; all_goals (and_intros <;> first | exact AV.subL_refl _ | omega | (simp [AV.sub, entsFree, Ent.free, Row.free]; done) | rfl | (simp [AV.subL_refl]; done))) (by simp [leL, lk]) (by intro n hn; first | (left; revert hn; simp [Nm, lk]; done) | (right; revert hn; simp only [Nm, lk]; split <;> simp <;> omega) | (by_cases h1 : Nm [(0, .obj 53 (.agg [.mp 1, .mp 2, .sl 304 1 0 4])), (1, .mset (.strs (nmL l4))), (2, .mset (.strs (tmL l4))), (304, .vec 9 (.strs (alL l4)))] n; exact .inl h1; right; revert hn h1; simp only [Nm, lk]; split <;> (try split) <;> (try split) <;> (try split) <;> (try simp) <;> (try omega))) (by simp [entsIn, Ent.nmIn, Row.nmIn, AV.nmIn, AV.nmInL, Nm, lk]) ?_
  simp only [callDel, exOps_cons, exOp_eq, exCall_eq, nx_eq, evL, ev, lk, putT, erA, inB, ap, up, er, true_and, Nat.reduceEqDiff, Nat.reduceLT, Nat.reduceAdd, if_true, if_false, reduceCtorEq, Option.bind_some, Option.map_some, List.nil_append, List.cons_append, List.map_cons, List.map_nil, List.reverse_cons, List.reverse_nil]
  refine CallK.with [(0, .obj 53 (.agg [.mp 1, .mp 2, .sl 464 1 0 5])), (1, .mset (.strs (nmL l5))), (2, .mset (.strs (tmL l5))), (464, .vec 9 (.strs (alL l5)))] [(0, .obj 53 (.agg [.mp 1, .mp 2, .sl 480 1 0 5])), (1, .mset (.strs (nmL l5))), (2, .mset (.strs (tmL l5))), (480, .vec 9 (.strs (alL l5)))] _ _ c6 call21 (by simp only [AV.nmIn, bnd, req, ret, onQ, AV.isTup, isTupL, and_true, true_and, and_self, Bool.false_eq_true, List.append_nil, vw.vwL, vw, AV.free, AV.freeL, Bool.or_self]; all_goals (and_intros <;> first | exact AV.subL_refl _ | omega | (simp [AV.sub, entsFree, Ent.free, Row.free]; done) | rfl | (simp [AV.subL_refl]; done))) (by simp [leL, lk]) (by intro n hn; first | (left; revert hn; simp [Nm, lk]; done) | (right; revert hn; simp only [Nm, lk]; split <;> simp <;> omega) | (by_cases h1 : Nm [(0, .obj 53 (.agg [.mp 1, .mp 2, .sl 464 1 0 5])), (1, .mset (.strs (nmL l5))), (2, .mset (.strs (tmL l5))), (464, .vec 9 (.strs (alL l5)))] n; exact .inl h1; right; revert hn h1; simp only [Nm, lk]; split <;> (try split) <;> (try split) <;> (try split) <;> (try simp) <;> (try omega))) (by simp [entsIn, Ent.nmIn, Row.nmIn, AV.nmIn, AV.nmInL, Nm, lk]) ?_
  simp only [callDel, exOps_nil, exOps_cons, exOp_eq, nx_eq, cur_eq, stepQ, ev, lk, putT, erA, inB, opt, ret, onQ, ap, up, er, true_and, Nat.reduceEqDiff, Nat.reduceLT, Nat.reduceAdd, if_true, if_false, reduceCtorEq, List.getElem?_cons_zero, List.getElem?_cons_succ, List.nil_append, List.cons_append, List.map_cons, List.map_nil, List.reverse_cons, List.reverse_nil]
  refine hK _ ?_
  clear hK K
  refine W.seqK fun K hK => W.regionK tt_ok ?_
  simp only [exOps_cons, exOp_eq, exCall_eq, nx_eq, cur_eq, evL, stepQ, ev, lk, putT, erA, inB, opt, ret, onQ, ap, true_and, Nat.reduceEqDiff, Nat.reduceLT, Nat.reduceAdd, if_true, if_false, reduceCtorEq, Option.bind_some, Option.map_some]
  refine CallK.with [(0, .obj 53 (.agg [.mp 1, .mp 2, .sl 480 1 0 5])), (1, .mset (.strs (nmL l5))), (2, .mset (.strs (tmL l5))), (480, .vec 9 (.strs (alL l5)))] [(0, .obj 53 (.agg [.mp 1, .mp 2, .sl 480 1 0 5])), (1, .mset (.strs (nmL l5))), (2, .mset (.strs (tmL l5))), (480, .vec 9 (.strs (alL l5)))] _ _ c7 call21 (by simp only [AV.nmIn, bnd, req, ret, onQ, AV.isTup, isTupL, and_true, true_and, and_self, Bool.false_eq_true, List.append_nil, vw.vwL, vw, AV.free, AV.freeL, Bool.or_self]; all_goals (and_intros <;> first | exact AV.subL_refl _ | omega | (simp [AV.sub, entsFree, Ent.free, Row.free]; done) | rfl | (simp [AV.subL_refl]; done))) (by simp [leL, lk]) (by intro n hn; first | (left; revert hn; simp [Nm, lk]; done) | (right; revert hn; simp only [Nm, lk]; split <;> simp <;> omega) | (by_cases h1 : Nm [(0, .obj 53 (.agg [.mp 1, .mp 2, .sl 480 1 0 5])), (1, .mset (.strs (nmL l5))), (2, .mset (.strs (tmL l5))), (480, .vec 9 (.strs (alL l5)))] n; exact .inl h1; right; revert hn h1; simp only [Nm, lk]; split <;> (try split) <;> (try split) <;> (try split) <;> (try simp) <;> (try omega))) (by simp [entsIn, Ent.nmIn, Row.nmIn, AV.nmIn, AV.nmInL, Nm, lk]) ?_
  simp only [callDel, exOps_nil, exOps_cons, exOp_eq, nx_eq, cur_eq, stepQ, ev, lk, putT, erA, inB, opt, ret, onQ, ap, up, er, true_and, Nat.reduceEqDiff, Nat.reduceLT, Nat.reduceAdd, if_true, if_false, reduceCtorEq, List.getElem?_cons_zero, List.getElem?_cons_succ, List.nil_append, List.cons_append, List.map_cons, List.map_nil, List.reverse_cons, List.reverse_nil]
  refine hK _ ?_
  clear hK K
  refine W.seqK fun K hK => W.regionK tt_ok ?_
  simp only [exOps_cons, exOp_eq, exCall_eq, nx_eq, cur_eq, evL, stepQ, ev, lk, putT, erA, inB, opt, ret, onQ, ap, true_and, Nat.reduceEqDiff, Nat.reduceLT, Nat.reduceAdd, if_true, if_false, reduceCtorEq, Option.bind_some, Option.map_some]
  refine CallK.with [(0, .obj 53 (.agg [.mp 1, .mp 2, .sl 480 1 0 5])), (1, .mset (.strs (nmL l5))), (2, .mset (.strs (tmL l5))), (480, .vec 9 (.strs (alL l5)))] [(0, .obj 53 (.agg [.mp 1, .mp 2, .sl 480 1 0 5])), (1, .mset (.strs (nmL l5))), (2, .mset (.strs (tmL l5))), (480, .vec 9 (.strs (alL l5)))] _ _ c8 call15 (by simp only [AV.nmIn, bnd, req, ret, onQ, AV.isTup, isTupL, and_true, true_and, and_self, Bool.false_eq_true, List.append_nil, vw.vwL, vw, AV.free, AV.freeL, Bool.or_self]; all_goals (and_intros <;> first | exact AV.subL_refl _ | omega | (simp [AV.sub, entsFree, Ent.free, Row.free]; done) | rfl | (simp [AV.subL_refl]; done))) (by simp [leL, lk]) (by intro n hn; first | (left; revert hn; simp [Nm, lk]; done) | (right; revert hn; simp only [Nm, lk]; split <;> simp <;> omega) | (by_cases h1 : Nm [(0, .obj 53 (.agg [.mp 1, .mp 2, .sl 480 1 0 5])), (1, .mset (.strs (nmL l5))), (2, .mset (.strs (tmL l5))), (480, .vec 9 (.strs (alL l5)))] n; exact .inl h1; right; revert hn h1; simp only [Nm, lk]; split <;> (try split) <;> (try split) <;> (try split) <;> (try simp) <;> (try omega))) (by simp [entsIn, Ent.nmIn, Row.nmIn, AV.nmIn, AV.nmInL, Nm, lk]) ?_
  simp only [callDel, exOps_nil, exOps_cons, exOp_eq, nx_eq, cur_eq, stepQ, ev, lk, putT, erA, inB, opt, ret, onQ, ap, up, er, true_and, Nat.reduceEqDiff, Nat.reduceLT, Nat.reduceAdd, if_true, if_false, reduceCtorEq, List.getElem?_cons_zero, List.getElem?_cons_succ, List.nil_append, List.cons_append, List.map_cons, List.map_nil, List.reverse_cons, List.reverse_nil]
  refine hK _ ?_
  clear hK K
  refine W.seqK fun K hK => W.regionK tt_ok ?_
  simp only [exOps_cons, exOp_eq, exCall_eq, nx_eq, cur_eq, evL, stepQ, ev, ofV, lk, putT, erA, inB, opt, ret, onQ, ap, true_and, Nat.reduceEqDiff, Nat.reduceLT, Nat.reduceAdd, if_true, if_false, reduceCtorEq, Option.bind_some, Option.map_some]
  refine CallK.pure _ _ r1 call16 (by simp only [AV.nmIn, bnd, req, ret, onQ, AV.isTup, isTupL, true_and, and_self, Bool.false_eq_true, List.append_nil, vw.vwL, vw, AV.free, Bool.or_self]; all_goals (and_intros <;> first | exact AV.subL_refl _ | omega | (simp [AV.sub]; done) | rfl | (simp [AV.subL_refl]; done) | (simp; exact AV.subL_refl _))) ?_
  simp only [↓gTT, ↓nTT, exOps_cons, exOp_eq, exCall_eq, nx_eq, cur_eq, evL, stepQ, ev, ofV, lk, putT, erA, inB, opt, bnd, req, ret, onQ, ap, binG, binF, strF, and_true, true_and, and_self, Nat.reduceEqDiff, Nat.reduceLT, Nat.reduceAdd, if_true, if_false, reduceCtorEq, List.getElem?_cons_zero, List.getElem?_cons_succ, Option.bind_some, Option.map_some, beq_self_eq_true, beq_self_eq_true]
  refine CallK.with [(0, .obj 53 (.agg [.mp 1, .mp 2, .sl 480 1 0 5])), (1, .mset (.strs (nmL l5))), (2, .mset (.strs (tmL l5))), (480, .vec 9 (.strs (alL l5)))] [(0, .obj 53 (.agg [.mp 1, .mp 2, .sl 960 1 0 5])), (1, .mset (.strs (nmL l5))), (2, .mset (.strs (tmL l5))), (960, .vec 9 (.strs (alL l5)))] _ _ c9 call18 (by simp only [AV.nmIn, bnd, req, ret, onQ, AV.isTup, isTupL, and_true, true_and, and_self, Bool.false_eq_true, List.append_nil, vw.vwL, vw, AV.free, Bool.or_self]; all_goals (and_intros <;> first | exact AV.subL_refl _ | omega | (simp [AV.sub, entsFree, Ent.free, Row.free]; done) | rfl | (simp [AV.subL_refl]; done))) (by simp [leL, lk]) (by intro n hn; first | (left; revert hn; simp [Nm, lk]; done) | (right; revert hn; simp only [Nm, lk]; split <;> simp <;> omega) | (by_cases h1 : Nm [(0, .obj 53 (.agg [.mp 1, .mp 2, .sl 480 1 0 5])), (1, .mset (.strs (nmL l5))), (2, .mset (.strs (tmL l5))), (480, .vec 9 (.strs (alL l5)))] n; exact .inl h1; right; revert hn h1; simp only [Nm, lk]; split <;> (try split) <;> (try split) <;> (try split) <;> (try simp) <;> (try omega))) (by simp [entsIn, Ent.nmIn, Row.nmIn, AV.nmIn, AV.nmInL, Nm, lk]) ?_
  simp only [callDel, ↓gTT, ↓nTT, exOps_cons, exOp_eq, exCall_eq, nx_eq, cur_eq, evL, stepQ, ev, ofV, lk, putT, erA, inB, opt, bnd, req, ret, onQ, ap, up, er, binG, binF, strF, pickF, and_true, true_and, and_self, Nat.reduceEqDiff, Nat.reduceLT, Nat.reduceAdd, if_true, if_false, reduceCtorEq, List.getElem?_cons_zero, List.getElem?_cons_succ, Option.bind_some, Option.map_some, List.nil_append, List.cons_append, beq_self_eq_true, List.map_cons, List.map_nil, List.reverse_cons, List.reverse_nil, beq_self_eq_true]
  refine CallK.pure _ _ r3 call16 (by simp only [AV.nmIn, bnd, req, ret, onQ, AV.isTup, isTupL, true_and, and_self, Bool.false_eq_true, List.append_nil, vw.vwL, vw, AV.free, Bool.or_self]; all_goals (and_intros <;> first | exact AV.subL_refl _ | omega | (simp [AV.sub]; done) | rfl | (simp [AV.subL_refl]; done) | (simp; exact AV.subL_refl _))) ?_
  simp only [Bool.not_false, ↓gTT, ↓nTT, exOps_cons, exOp_eq, exCall_eq, nx_eq, cur_eq, evL, stepQ, ev, ofV, lk, putT, erA, inB, opt, bnd, req, ret, onQ, ap, binG, binF, intF, strF, unF, pickF, Kd.elem, ixA, asI, ldP, ldC, ldS, Kd.agg, comps, csize, takeI, takeC, dropC, bltQ, bltV, lenF, and_true, true_and, and_self, or_false, Nat.reduceEqDiff, Nat.reduceLT, Nat.reduceLeDiff, Nat.reduceAdd, Nat.reduceSub, Int.reduceLE, Int.reduceToNat, Nat.sub_self, Nat.le_refl, Nat.zero_add, if_true, if_false, Bool.false_eq_true, reduceCtorEq, List.getElem?_cons_zero, List.getElem?_cons_succ, Option.bind_some, Option.map_some, tt_9, tt_35, beq_self_eq_true, hi1, hi2, beq_self_eq_true, beq_self_eq_true, List.length_cons, List.length_nil, List.getD_cons_zero]
  refine CallK.with [(0, .obj 53 (.agg [.mp 1, .mp 2, .sl 960 1 0 5])), (1, .mset (.strs (nmL l5))), (2, .mset (.strs (tmL l5))), (960, .vec 9 (.strs (alL l5)))] [(1680, .vec 9 (.strs (alL l5))), (0, .obj 53 (.agg [.mp 1, .mp 2, .sl 960 1 0 5])), (1, .mset (.strs (nmL l5))), (2, .mset (.strs (tmL l5))), (960, .vec 9 (.strs (alL l5)))] _ _ c10 call14 (by simp only [AV.nmIn, bnd, req, ret, onQ, AV.isTup, isTupL, and_true, true_and, and_self, Bool.false_eq_true, List.append_nil, vw.vwL, vw, AV.free, Bool.or_self]; all_goals (and_intros <;> first | exact AV.subL_refl _ | omega | (simp [AV.sub, entsFree, Ent.free, Row.free]; done) | rfl | (simp [AV.subL_refl]; done))) (by simp [leL, lk]) (by intro n hn; first | (left; revert hn; simp [Nm, lk]; done) | (right; revert hn; simp only [Nm, lk]; split <;> simp <;> omega) | (by_cases h1 : Nm [(0, .obj 53 (.agg [.mp 1, .mp 2, .sl 960 1 0 5])), (1, .mset (.strs (nmL l5))), (2, .mset (.strs (tmL l5))), (960, .vec 9 (.strs (alL l5)))] n; exact .inl h1; right; revert hn h1; simp only [Nm, lk]; split <;> (try split) <;> (try split) <;> (try split) <;> (try simp) <;> (try omega))) (by simp [entsIn, Ent.nmIn, Row.nmIn, AV.nmIn, AV.nmInL, Nm, lk]) ?_
  simp only [callDel, ↓gTT, ↓nTT, exOps_nil, exOps_cons, exOp_eq, exCall_eq, nx_eq, cur_eq, evL, stepQ, ev, ofV, lk, putT, erA, inB, opt, bnd, req, ret, onQ, ap, up, er, binG, binF, intF, pickF, bltQ, bltV, lenF, and_true, true_and, and_self, or_false, Nat.reduceEqDiff, Nat.reduceLT, Nat.reduceAdd, if_true, if_false, reduceCtorEq, List.getElem?_cons_zero, List.getElem?_cons_succ, Option.bind_some, Option.map_some, List.nil_append, List.cons_append, tt_35, hi5, List.map_cons, List.map_nil, List.reverse_cons, List.reverse_nil]
  refine hK _ ?_
  clear hK K
  refine W.ret ?_
  simp only [fin_ret, finB, resQ, resV, leL, AV.nmIn, entsIn, lk, opt, bnd, req, ret, onQ, AV.isTup, and_self, if_true, if_false, reduceCtorEq]
  done
theorem call9 : Callable Try.prog 9 := ⟨_, Try.func9, by kernel_rfl, by kernel_rfl⟩
end Go.Proofs.Ytjnhpklhdikcdaa
