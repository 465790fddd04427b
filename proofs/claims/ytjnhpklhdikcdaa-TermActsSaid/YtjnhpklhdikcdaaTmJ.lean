/- codec.read, of what Join told. -/
import Derived.Test.YtjnhpklhdikcdaaTmI
import Derived.Test.YtjnhpklhdikcdaaTmG
-- TT 3 4 5 9 35 47 63 74 76 80
set_option linter.unusedVariables false
set_option linter.unusedSimpArgs false
namespace Go.Proofs.Ytjnhpklhdikcdaa
open Sx
set_option maxRecDepth 100000
set_option maxHeartbeats 2000000
def bS (x : Nat) : ByteArray := { data := #[UInt8.ofNat x] }
def rS : List ByteArray → ByteArray
  | [] => { data := #[] }
  | s :: l => bS (s.size / 256) ++ (bS s.size ++ (s ++ rS l))
def encS (kind : Nat) (l : List ByteArray) : ByteArray := bS 1 ++ (bS kind ++ (bS l.length ++ rS l))
theorem byte_bs (x : Nat) (hx : x < 256) (b : ByteArray) : FnR Try.prog G 43 [.ptr 0 0 0 1] [(0, .obj 80 (.agg [.str (bS x ++ b)]))] (.int .i64 (x : Nat)) [(0, .obj 80 (.agg [.str b]))] := by
  have h := byte_at (UInt8.ofNat x) b
  rw [show (UInt8.ofNat x).toNat = x from by simp; omega] at h
  exact h
theorem encS_eq (kind : Nat) (l : List ByteArray) : encS kind l = bS 1 ++ (bS kind ++ (bS l.length ++ rS l)) := rfl
theorem byte_bs' (x : Nat) (b : ByteArray) : FnR Try.prog G 43 [.ptr 0 0 0 1] [(0, .obj 80 (.agg [.str (bS x ++ b)]))] (.int .i64 ((x % 256 : Nat) : Int)) [(0, .obj 80 (.agg [.str b]))] := by
  have h := byte_at (UInt8.ofNat x) b
  rw [show (UInt8.ofNat x).toNat = x % 256 from by simp] at h
  exact h
/-- A list of texts by value; none is nil. -/
def lsV : List ByteArray → AV
  | [] => .nils
  | l => .lstS l
def rdI (kind : Nat) (l : List ByteArray) (k : Nat) : St := match k with
  | 0 => ⟨[(2, .int .u8 (kind : Nat)), (3, .nils), (4, .ptr 32 0 0 1), (5, .ptr 144 0 0 1), (22, .int .i64 (l.length : Nat)), (23, .int .i64 0)], [(144, .obj 80 (.agg [.str (rS l)])), (32, .obj 63 (.int .i64 0))], 2048, 50⟩
  | k + 1 => ⟨[(2, .int .u8 (kind : Nat)), (3, .sl 1024 1 0 (k + 1)), (4, .ptr 32 0 0 1), (5, .ptr 144 0 0 1), (22, .int .i64 (l.length : Nat)), (23, .int .i64 ((k + 1 : Nat) : Int))], [(144, .obj 80 (.agg [.str (rS (l.drop (k + 1)))])), (32, .obj 63 (.int .i64 0)), (1024, .vec 9 (.strs (l.take (k + 1))))], 2048, 50⟩
theorem rS_drop (l : List ByteArray) (k : Nat) (h : k < l.length) : rS (l.drop k) = bS (l[k].size / 256) ++ (bS l[k].size ++ (l[k] ++ rS (l.drop (k + 1)))) := by
  rw [List.drop_eq_getElem_cons h, rS]
theorem read_fn (kind : Nat) (hk : kind < 256) (l : List ByteArray) (hl : l.length < 256) (hs : ∀ s ∈ l, s.size ≤ 4000) (hz : (encS kind l).size ≤ 30000) : FnR Try.prog G 36 [.str (encS kind l)] [] (.tup [.int .u8 (kind : Nat), lsV l, .int .i64 0]) [] := by
  have hkw : IntKind.u8.wrap (kind : Int) = kind := by rw [IntKind.wrap_u8]; omega
  have hz1 : ((encS kind l).size : Int) ≤ 30000 := by omega
  have b0 := (byte_bs 1 (by omega) (bS kind ++ (bS l.length ++ rS l))).swap 0 144
  have b1 := (byte_bs kind hk (bS l.length ++ rS l)).swap 0 144
  have b2 := (byte_bs l.length hl (rS l)).swap 0 144
  simp only [AV.map, AV.mapL, enMap, Ent.map, swp] at b0 b1 b2
  rw [encS_eq] at *
  generalize hr : rS l = r at *
  simp [AV.map, swp] at b0 b1 b2
  refine FnR.of_bodyDT (m := 50) tt_ok Try.func36 rfl rfl (by simp) caught_idle call41 ?_
  rw [show Try.f36.results.toList = [.tmp 2, .tmp 3, .cell 4 63] from rfl]
  simp only [exOps_nil, exOps_cons, exOp_eq, nx_eq, cur_eq, stepQ, ev, ofV, parT, putT, erA, inB, opt, ret, onQ, ap, up, er, true_and, Nat.reduceEqDiff, Nat.reduceLT, Nat.reduceAdd, Nat.zero_add, if_false, reduceCtorEq, tt_63]
  refine W.seqK fun K hK => W.regionK tt_ok ?_
  simp only [decide_true, exOps_cons, exOp_eq, exCall_eq, nx_eq, cur_eq, evL, stepQ, ev, ofV, lk, putT, erA, inB, opt, bnd, req, ret, onQ, ap, binG, binF, intF, bltQ, bltV, lenF, true_and, and_self, or_false, Nat.reduceEqDiff, Nat.reduceLT, Nat.reduceAdd, if_true, if_false, reduceCtorEq, List.getElem?_cons_zero, Option.bind_some, Option.map_some, tt_9, hz1]
  refine CallK.pure _ _ need_fn call42 (by simp only [AV.nmIn, bnd, req, ret, onQ, AV.isTup, isTupL, true_and, and_self, Bool.false_eq_true, List.append_nil, vw.vwL, vw, AV.free, AV.freeL, Bool.or_self]; all_goals (and_intros <;> first | exact AV.subL_refl _ | omega | (simp [AV.sub]; done) | rfl | (simp [AV.subL_refl]; done) | (simp; exact AV.subL_refl _))) ?_
  simp only [exOps_nil, nx_eq, putT, erA, ap, Nat.reduceEqDiff, Nat.reduceAdd, if_false, reduceCtorEq]
  refine hK _ ?_
  clear hK K
  refine W.seqK fun K hK => W.regionK tt_ok ?_
  simp only [exOps_nil, exOps_cons, exOp_eq, nx_eq, cur_eq, evP, stepQ, ev, lk, putT, erA, inB, opt, bnd, req, ret, onQ, ap, up, er, AV.isTup, AV.isAgg, Kd.agg, comps, szL, csize, takeI, takeC, dropC, stC, stS, bldF, bldS, and_true, true_and, and_self, and_false, Nat.reduceEqDiff, Nat.reduceLT, Nat.reduceLeDiff, Nat.reduceAdd, Nat.reduceSub, Nat.sub_self, Nat.le_refl, Nat.add_zero, Nat.zero_add, if_true, if_false, Bool.false_eq_true, reduceCtorEq, List.getElem?_cons_zero, Option.bind_some, Option.map_some, List.append_nil, List.nil_append, tt_9, tt_80]
  refine ⟨by rfl, ?_⟩
  refine hK _ ?_
  clear hK K
  refine W.seqK fun K hK => W.regionK tt_ok ?_
  simp only [exOps_cons, exOp_eq, exCall_eq, nx_eq, cur_eq, evL, stepQ, ev, lk, putT, erA, inB, opt, ret, onQ, ap, true_and, Nat.reduceEqDiff, Nat.reduceLT, Nat.reduceAdd, if_true, if_false, reduceCtorEq, Option.bind_some, Option.map_some]
  refine CallK.with [(144, .obj 80 (.agg [.str (bS 1 ++ (bS kind ++ (bS l.length ++ r)))]))] [(144, .obj 80 (.agg [.str (bS kind ++ (bS l.length ++ r))]))] _ _ b0 call43 (by simp only [AV.nmIn, bnd, req, ret, onQ, AV.isTup, isTupL, and_true, true_and, and_self, Bool.false_eq_true, List.append_nil, vw.vwL, vw, AV.free, Bool.or_self]; all_goals (and_intros <;> first | exact AV.subL_refl _ | omega | (simp [AV.sub, entsFree, Ent.free]; done) | rfl | (simp [AV.subL_refl]; done))) (by simp [leL, lk]) (by intro n hn; first | (left; revert hn; simp [Nm, lk]; done) | (right; revert hn; simp only [Nm, lk]; split <;> simp <;> omega) | (by_cases h1 : Nm [(144, .obj 80 (.agg [.str (bS 1 ++ (bS kind ++ (bS l.length ++ r)))]))] n; exact .inl h1; right; revert hn h1; simp only [Nm, lk]; split <;> (try split) <;> (try split) <;> (try split) <;> (try simp) <;> (try omega))) (by simp [entsIn, Ent.nmIn, AV.nmIn, AV.nmInL]) ?_
  simp only [callDel, Int.reduceBEq, exOps_cons, exOp_eq, exCall_eq, nx_eq, cur_eq, evL, stepQ, ev, ofV, lk, putT, erA, inB, opt, bnd, req, ret, onQ, ap, up, er, binG, binF, intF, true_and, and_self, Nat.reduceEqDiff, Nat.reduceLT, Nat.reduceAdd, if_true, if_false, reduceCtorEq, Option.bind_some, Option.map_some, List.nil_append, List.cons_append, List.map_cons, List.map_nil, List.reverse_cons, List.reverse_nil]
  refine CallK.pure _ _ need_fn call42 (by simp only [AV.nmIn, bnd, req, ret, onQ, AV.isTup, isTupL, true_and, and_self, Bool.false_eq_true, List.append_nil, vw.vwL, vw, AV.free, AV.freeL, Bool.or_self]; all_goals (and_intros <;> first | exact AV.subL_refl _ | omega | (simp [AV.sub]; done) | rfl | (simp [AV.subL_refl]; done) | (simp; exact AV.subL_refl _))) ?_
  simp only [exOps_nil, nx_eq, putT, erA, ap, Nat.reduceEqDiff, Nat.reduceAdd, if_false, reduceCtorEq]
  refine hK _ ?_
  clear hK K
  refine W.seqK fun K hK => W.regionK tt_ok ?_
  simp only [exOps_cons, exOp_eq, exCall_eq, nx_eq, cur_eq, evL, stepQ, ev, lk, putT, erA, inB, opt, ret, onQ, ap, true_and, Nat.reduceEqDiff, Nat.reduceLT, Nat.reduceAdd, if_true, if_false, reduceCtorEq, Option.bind_some, Option.map_some]
  refine CallK.with [(144, .obj 80 (.agg [.str (bS kind ++ (bS l.length ++ r))]))] [(144, .obj 80 (.agg [.str (bS l.length ++ r)]))] _ _ b1 call43 (by simp only [AV.nmIn, bnd, req, ret, onQ, AV.isTup, isTupL, and_true, true_and, and_self, Bool.false_eq_true, List.append_nil, vw.vwL, vw, AV.free, Bool.or_self]; all_goals (and_intros <;> first | exact AV.subL_refl _ | omega | (simp [AV.sub, entsFree, Ent.free]; done) | rfl | (simp [AV.subL_refl]; done))) (by simp [leL, lk]) (by intro n hn; first | (left; revert hn; simp [Nm, lk]; done) | (right; revert hn; simp only [Nm, lk]; split <;> simp <;> omega) | (by_cases h1 : Nm [(144, .obj 80 (.agg [.str (bS kind ++ (bS l.length ++ r))]))] n; exact .inl h1; right; revert hn h1; simp only [Nm, lk]; split <;> (try split) <;> (try split) <;> (try split) <;> (try simp) <;> (try omega))) (by simp [entsIn, Ent.nmIn, AV.nmIn, AV.nmInL]) ?_
  simp only [callDel, exOps_nil, exOps_cons, exOp_eq, nx_eq, cur_eq, stepQ, ev, lk, putT, erA, inB, opt, bnd, req, ret, onQ, ap, up, er, cvQ, true_and, and_self, Nat.reduceEqDiff, Nat.reduceLT, Nat.reduceAdd, if_true, if_false, reduceCtorEq, List.nil_append, List.cons_append, tt_3, tt_5, List.map_cons, List.map_nil, List.reverse_cons, List.reverse_nil, hkw]
  refine hK _ ?_
  clear hK K
  refine W.seqK fun Kx hKx => ?_
  refine W.seqK fun K hK => W.regionK tt_ok ?_
  simp only [exOps_cons, exOp_eq, exCall_eq, nx_eq, cur_eq, evL, stepQ, ev, lk, putT, erA, inB, opt, ret, onQ, ap, true_and, Nat.reduceEqDiff, Nat.reduceLT, Nat.reduceAdd, if_true, if_false, reduceCtorEq, Option.bind_some, Option.map_some]
  refine CallK.with [(144, .obj 80 (.agg [.str (bS l.length ++ r)]))] [(144, .obj 80 (.agg [.str r]))] _ _ b2 call43 (by simp only [AV.nmIn, bnd, req, ret, onQ, AV.isTup, isTupL, and_true, true_and, and_self, Bool.false_eq_true, List.append_nil, vw.vwL, vw, AV.free, Bool.or_self]; all_goals (and_intros <;> first | exact AV.subL_refl _ | omega | (simp [AV.sub, entsFree, Ent.free]; done) | rfl | (simp [AV.subL_refl]; done))) (by simp [leL, lk]) (by intro n hn; first | (left; revert hn; simp [Nm, lk]; done) | (right; revert hn; simp only [Nm, lk]; split <;> simp <;> omega) | (by_cases h1 : Nm [(144, .obj 80 (.agg [.str (bS l.length ++ r)]))] n; exact .inl h1; right; revert hn h1; simp only [Nm, lk]; split <;> (try split) <;> (try split) <;> (try split) <;> (try simp) <;> (try omega))) (by simp [entsIn, Ent.nmIn, AV.nmIn, AV.nmInL]) ?_
  simp only [callDel, exOps_nil, exOps_cons, exOp_eq, nx_eq, cur_eq, stepQ, ev, ofV, putT, erA, inB, opt, ret, onQ, ap, up, er, true_and, Nat.reduceEqDiff, Nat.reduceLT, Nat.reduceAdd, if_true, if_false, reduceCtorEq, List.nil_append, List.cons_append, List.map_cons, List.map_nil, List.reverse_cons, List.reverse_nil]
  refine hK _ ?_
  clear hK K
  refine W.blockK ?_
  subst hr
  refine W.loopS (fun k : Nat => k ≤ l.length) (rdI kind l) (fun k => l.length - k) 0 (by simp) (by simp [rdI, wk, leL, lk, nmT, nmE, nmH, AV.nmIn, AV.nmInL, Ent.nmIn]) ?_
  intro k hk K3 hK3
  by_cases hlt : k < l.length
  · have l1 : (k : Int) < (l.length : Int) := by omega
    have hrd := rS_drop l k hlt
    have hs2 := hs l[k] (List.getElem_mem hlt)
    have htk : l.take (k + 1) = l.take k ++ [l[k]] := by rw [List.take_append_getElem]
    generalize hgs : l[k] = s at *
    have hh : s.size / 256 < 256 := by omega
    have c0 := (byte_bs (s.size / 256) hh (bS s.size ++ (s ++ rS (l.drop (k + 1))))).swap 0 144
    have c1 := (byte_bs' s.size (s ++ rS (l.drop (k + 1)))).swap 0 144
    have c2 := (take_ap s (rS (l.drop (k + 1)))).swap 0 144
    simp [AV.map, AV.mapL, enMap, Ent.map, swp, -Int.natCast_ediv, -Int.natCast_emod] at c0 c1 c2
    generalize hr2 : rS (l.drop (k + 1)) = r2 at *
    have hdec : 256 * (s.size / 256) + s.size % 256 = s.size := by omega
    generalize bS (s.size / 256) = y1 at *
    generalize bS s.size = y2 at *
    generalize s.size / 256 = hi at *
    generalize s.size % 256 = lo at *
    have hw1 : IntKind.i64.wrap ((hi : Int) * 2 ^ min 8 IntKind.i64.bits) = (hi : Int) * 256 := by rw [show (2 : Int) ^ min 8 IntKind.i64.bits = 256 from rfl, IntKind.wrap_i64]; omega
    have hw2 : IntKind.i64.wrap ((hi : Int) * 256 + (lo : Int)) = (s.size : Int) := by rw [IntKind.wrap_i64]; omega
    have hs3 : (s.size : Int) ≤ 4000 := by omega
    cases k with
    | zero =>
      rw [List.drop_zero] at hrd
      have l1 : (0 : Int) < (l.length : Int) := by omega
      simp only [rdI, hrd]
      refine W.seqK fun K hK => W.regionK tt_ok ?_
      simp only [decide_true, exOps_nil, exOps_cons, exOp_eq, nx_eq, cur_eq, stepQ, ev, lk, putT, erA, inB, opt, bnd, req, ret, onQ, ap, binG, binF, intF, true_and, and_self, Nat.reduceEqDiff, Nat.reduceLT, Nat.reduceAdd, if_true, if_false, l1]
      refine hK _ ?_
      clear hK K
      refine W.seqK fun K hK => W.cond (b := true) (by simp only [ev, lk, Nat.reduceEqDiff, if_true, if_false]) (fun _ => W.skip ?_) (fun h => absurd h (by simp))
      rw [thn_normal]
      refine hK _ ?_
      clear hK K
      refine W.seqK fun K hK => W.blockK ?_
      have hwk : IntKind.i64.wrap (0 + 1) = 1 := rfl
      refine W.seqK fun K hK => W.regionK tt_ok ?_
      simp only [exOps_cons, exOp_eq, exCall_eq, nx_eq, cur_eq, evL, stepQ, ev, lk, putT, erA, inB, opt, ret, onQ, ap, true_and, Nat.reduceEqDiff, Nat.reduceLT, Nat.reduceAdd, if_true, if_false, Option.bind_some, Option.map_some]
      refine CallK.with [(144, .obj 80 (.agg [.str (y1 ++ (y2 ++ (s ++ r2)))]))] [(144, .obj 80 (.agg [.str (y2 ++ (s ++ r2))]))] _ _ c0 call43 (by simp only [AV.nmIn, bnd, req, ret, onQ, AV.isTup, isTupL, and_true, true_and, and_self, Bool.false_eq_true, List.append_nil, vw.vwL, vw, AV.free, Bool.or_self]; all_goals (and_intros <;> first | exact AV.subL_refl _ | omega | (simp [AV.sub, entsFree, Ent.free]; done) | rfl | (simp [AV.subL_refl]; done))) (by simp [leL, lk]) (by intro n hn; first | (left; revert hn; simp [Nm, lk]; done) | (right; revert hn; simp only [Nm, lk]; split <;> simp <;> omega) | (by_cases h1 : Nm [(144, .obj 80 (.agg [.str (y1 ++ (y2 ++ (s ++ r2)))]))] n; exact .inl h1; right; revert hn h1; simp only [Nm, lk]; split <;> (try split) <;> (try split) <;> (try split) <;> (try simp) <;> (try omega))) (by simp [entsIn, Ent.nmIn, AV.nmIn, AV.nmInL]) ?_
      simp only [callDel, exOps_nil, exOps_cons, exOp_eq, nx_eq, cur_eq, stepQ, ev, ofV, lk, putT, erA, inB, opt, bnd, req, ret, onQ, ap, up, er, binG, binF, shiftF, true_and, and_self, Nat.reduceEqDiff, Nat.reduceLT, Nat.reduceAdd, Int.reduceLE, Int.reduceToNat, if_true, if_false, List.nil_append, List.cons_append, List.map_cons, List.map_nil, List.reverse_cons, List.reverse_nil, hw1]
      refine hK _ ?_
      clear hK K
      refine W.seqK fun K hK => W.regionK tt_ok ?_
      simp only [exOps_cons, exOp_eq, exCall_eq, nx_eq, cur_eq, evL, stepQ, ev, lk, putT, erA, inB, opt, ret, onQ, ap, true_and, Nat.reduceEqDiff, Nat.reduceLT, Nat.reduceAdd, if_true, if_false, Option.bind_some, Option.map_some]
      refine CallK.with [(144, .obj 80 (.agg [.str (y2 ++ (s ++ r2))]))] [(144, .obj 80 (.agg [.str (s ++ r2)]))] _ _ c1 call43 (by simp only [AV.nmIn, bnd, req, ret, onQ, AV.isTup, isTupL, and_true, true_and, and_self, Bool.false_eq_true, List.append_nil, vw.vwL, vw, AV.free, Bool.or_self]; all_goals (and_intros <;> first | exact AV.subL_refl _ | omega | (simp [AV.sub, entsFree, Ent.free]; done) | rfl | (simp [AV.subL_refl]; done))) (by simp [leL, lk]) (by intro n hn; first | (left; revert hn; simp [Nm, lk]; done) | (right; revert hn; simp only [Nm, lk]; split <;> simp <;> omega) | (by_cases h1 : Nm [(144, .obj 80 (.agg [.str (y2 ++ (s ++ r2))]))] n; exact .inl h1; right; revert hn h1; simp only [Nm, lk]; split <;> (try split) <;> (try split) <;> (try split) <;> (try simp) <;> (try omega))) (by simp [entsIn, Ent.nmIn, AV.nmIn, AV.nmInL]) ?_
      simp only [callDel, exOps_nil, exOps_cons, exOp_eq, nx_eq, cur_eq, stepQ, ev, lk, putT, erA, inB, opt, bnd, req, ret, onQ, ap, up, er, binG, binF, intF, true_and, and_self, Nat.reduceEqDiff, Nat.reduceLT, Nat.reduceAdd, if_true, if_false, List.nil_append, List.cons_append, List.map_cons, List.map_nil, List.reverse_cons, List.reverse_nil, hw2]
      refine hK _ ?_
      clear hK K
      refine W.seqK fun K hK => W.regionK tt_ok ?_
      simp only [decide_true, exOps_cons, exOp_eq, exCall_eq, nx_eq, cur_eq, evL, stepQ, ev, ofV, lk, putT, erA, inB, opt, bnd, req, ret, onQ, ap, binG, binF, intF, true_and, and_self, Nat.reduceEqDiff, Nat.reduceLT, Nat.reduceAdd, if_true, if_false, Option.bind_some, Option.map_some, hs3]
      refine CallK.pure _ _ need_fn call42 (by simp only [AV.nmIn, bnd, req, ret, onQ, AV.isTup, isTupL, true_and, and_self, Bool.false_eq_true, List.append_nil, vw.vwL, vw, AV.free, AV.freeL, Bool.or_self]; all_goals (and_intros <;> first | exact AV.subL_refl _ | omega | (simp [AV.sub]; done) | rfl | (simp [AV.subL_refl]; done) | (simp; exact AV.subL_refl _))) ?_
      simp only [exOps_nil, nx_eq, putT, erA, ap, Nat.reduceEqDiff, Nat.reduceAdd, if_false]
      refine hK _ ?_
      clear hK K
      refine W.region tt_ok ?_
      simp only [exOps_cons, exOp_eq, exCall_eq, nx_eq, cur_eq, evL, stepQ, ev, lk, putT, erA, inB, opt, ret, onQ, ap, true_and, Nat.reduceEqDiff, Nat.reduceLT, Nat.reduceAdd, if_true, if_false, Option.bind_some, Option.map_some]
      refine CallK.with [(144, .obj 80 (.agg [.str (s ++ r2)]))] [(144, .obj 80 (.agg [.str r2]))] _ _ c2 call44 (by simp only [AV.nmIn, bnd, req, ret, onQ, AV.isTup, isTupL, and_true, true_and, and_self, Bool.false_eq_true, List.append_nil, vw.vwL, vw, AV.free, Bool.or_self]; all_goals (and_intros <;> first | exact AV.subL_refl _ | omega | (simp [AV.sub, entsFree, Ent.free]; done) | rfl | (simp [AV.subL_refl]; done))) (by simp [leL, lk]) (by intro n hn; first | (left; revert hn; simp [Nm, lk]; done) | (right; revert hn; simp only [Nm, lk]; split <;> simp <;> omega) | (by_cases h1 : Nm [(144, .obj 80 (.agg [.str (s ++ r2)]))] n; exact .inl h1; right; revert hn h1; simp only [Nm, lk]; split <;> (try split) <;> (try split) <;> (try split) <;> (try simp) <;> (try omega))) (by simp [entsIn, Ent.nmIn, AV.nmIn, AV.nmInL]) ?_
      simp only [callDel, exOps_nil, exOps_cons, exOp_eq, exCall_eq, nx_eq, cur_eq, curV_eq, evL, evP, stepQ, ev, lk, putT, erA, inB, opt, bnd, req, ret, onQ, ap, up, er, AV.isTup, AV.isAgg, Kd.agg, comps, szL, csize, takeI, takeC, dropC, stC, stS, bltQ, bltV, appQ, appV, srcQ, Row.len, Row.sz, Row.take, Row.drop, Ent.row, Row.lst, bldA, bslQ, zeroCs, cellsRow, strsOf, thn_normal, inb_normal, and_true, true_and, and_self, and_false, Nat.reduceEqDiff, Nat.reduceLT, Nat.reduceLeDiff, Nat.reduceAdd, Nat.reduceSub, Nat.reduceMul, Nat.sub_self, Nat.le_refl, Nat.add_zero, Nat.zero_add, if_true, if_false, Bool.false_eq_true, reduceCtorEq, ne_eq, not_false_eq_true, Option.bind_some, Option.map_some, List.append_nil, List.nil_append, List.cons_append, tt_9, tt_35, List.map_cons, List.map_nil, List.reverse_cons, List.reverse_nil, lit1, List.flatten_cons, List.flatten_nil, List.length_cons, List.length_nil, List.drop_zero, List.take_succ_cons, List.take_zero]
      first | refine .inl ?_ | skip
      repeat (refine ⟨by omega, ?_⟩)
      refine hK _ ?_
      refine W.region tt_ok ?_
      simp only [exOps_nil, exOps_cons, exOp_eq, nx_eq, cur_eq, stepQ, ev, ofV, lk, putT, erA, inB, opt, bnd, req, ret, onQ, ap, binG, binF, intF, thn_normal, true_and, and_self, Nat.reduceEqDiff, Nat.reduceLT, Nat.reduceAdd, if_true, if_false]
      refine hK3 _ (0 + 1) 2336 1024 (by omega) (by omega) ⟨⟨by simp [Nm, lk], by simp [Nm, lk]⟩, by simp, by simp⟩ ?_
      simp [rdI, htk, St.swap, tmMap, enMap, swp, AV.map, AV.mapL, Ent.map, Row.map, wk, leL, lk, nmT, nmE, nmH, AV.nmIn, AV.nmInL, Ent.nmIn, Row.nmIn]
      exact ⟨rfl, by rw [← hr2]; simp⟩
    | succ k =>
      simp only [rdI, hrd]
      have htl : (l.take (k + 1)).length = k + 1 := by simp; omega
      generalize hta : l.take (k + 1) = lt at *
      have hwk : IntKind.i64.wrap (((k + 1 : Nat) : Int) + 1) = ((k + 1 + 1 : Nat) : Int) := by rw [IntKind.wrap_i64]; omega
      refine W.seqK fun K hK => W.regionK tt_ok ?_
      simp only [decide_true, exOps_nil, exOps_cons, exOp_eq, nx_eq, cur_eq, stepQ, ev, lk, putT, erA, inB, opt, bnd, req, ret, onQ, ap, binG, binF, intF, true_and, and_self, Nat.reduceEqDiff, Nat.reduceLT, Nat.reduceAdd, if_true, if_false, l1]
      refine hK _ ?_
      clear hK K
      refine W.seqK fun K hK => W.cond (b := true) (by simp only [ev, lk, Nat.reduceEqDiff, if_true, if_false]) (fun _ => W.skip ?_) (fun h => absurd h (by simp))
      rw [thn_normal]
      refine hK _ ?_
      clear hK K
      refine W.seqK fun K hK => W.blockK ?_
      refine W.seqK fun K hK => W.regionK tt_ok ?_
      simp only [exOps_cons, exOp_eq, exCall_eq, nx_eq, cur_eq, evL, stepQ, ev, lk, putT, erA, inB, opt, ret, onQ, ap, true_and, Nat.reduceEqDiff, Nat.reduceLT, Nat.reduceAdd, if_true, if_false, Option.bind_some, Option.map_some]
      refine CallK.with [(144, .obj 80 (.agg [.str (y1 ++ (y2 ++ (s ++ r2)))]))] [(144, .obj 80 (.agg [.str (y2 ++ (s ++ r2))]))] _ _ c0 call43 (by simp only [AV.nmIn, bnd, req, ret, onQ, AV.isTup, isTupL, and_true, true_and, and_self, Bool.false_eq_true, List.append_nil, vw.vwL, vw, AV.free, Bool.or_self]; all_goals (and_intros <;> first | exact AV.subL_refl _ | omega | (simp [AV.sub, entsFree, Ent.free]; done) | rfl | (simp [AV.subL_refl]; done))) (by simp [leL, lk]) (by intro n hn; first | (left; revert hn; simp [Nm, lk]; done) | (right; revert hn; simp only [Nm, lk]; split <;> simp <;> omega) | (by_cases h1 : Nm [(144, .obj 80 (.agg [.str (y1 ++ (y2 ++ (s ++ r2)))]))] n; exact .inl h1; right; revert hn h1; simp only [Nm, lk]; split <;> (try split) <;> (try split) <;> (try split) <;> (try simp) <;> (try omega))) (by simp [entsIn, Ent.nmIn, AV.nmIn, AV.nmInL]) ?_
      simp only [callDel, exOps_nil, exOps_cons, exOp_eq, nx_eq, cur_eq, stepQ, ev, ofV, lk, putT, erA, inB, opt, bnd, req, ret, onQ, ap, up, er, binG, binF, shiftF, true_and, and_self, Nat.reduceEqDiff, Nat.reduceLT, Nat.reduceAdd, Int.reduceLE, Int.reduceToNat, if_true, if_false, List.nil_append, List.cons_append, List.map_cons, List.map_nil, List.reverse_cons, List.reverse_nil, hw1]
      refine hK _ ?_
      clear hK K
      refine W.seqK fun K hK => W.regionK tt_ok ?_
      simp only [exOps_cons, exOp_eq, exCall_eq, nx_eq, cur_eq, evL, stepQ, ev, lk, putT, erA, inB, opt, ret, onQ, ap, true_and, Nat.reduceEqDiff, Nat.reduceLT, Nat.reduceAdd, if_true, if_false, Option.bind_some, Option.map_some]
      refine CallK.with [(144, .obj 80 (.agg [.str (y2 ++ (s ++ r2))]))] [(144, .obj 80 (.agg [.str (s ++ r2)]))] _ _ c1 call43 (by simp only [AV.nmIn, bnd, req, ret, onQ, AV.isTup, isTupL, and_true, true_and, and_self, Bool.false_eq_true, List.append_nil, vw.vwL, vw, AV.free, Bool.or_self]; all_goals (and_intros <;> first | exact AV.subL_refl _ | omega | (simp [AV.sub, entsFree, Ent.free]; done) | rfl | (simp [AV.subL_refl]; done))) (by simp [leL, lk]) (by intro n hn; first | (left; revert hn; simp [Nm, lk]; done) | (right; revert hn; simp only [Nm, lk]; split <;> simp <;> omega) | (by_cases h1 : Nm [(144, .obj 80 (.agg [.str (y2 ++ (s ++ r2))]))] n; exact .inl h1; right; revert hn h1; simp only [Nm, lk]; split <;> (try split) <;> (try split) <;> (try split) <;> (try simp) <;> (try omega))) (by simp [entsIn, Ent.nmIn, AV.nmIn, AV.nmInL]) ?_
      simp only [callDel, exOps_nil, exOps_cons, exOp_eq, nx_eq, cur_eq, stepQ, ev, lk, putT, erA, inB, opt, bnd, req, ret, onQ, ap, up, er, binG, binF, intF, true_and, and_self, Nat.reduceEqDiff, Nat.reduceLT, Nat.reduceAdd, if_true, if_false, List.nil_append, List.cons_append, List.map_cons, List.map_nil, List.reverse_cons, List.reverse_nil, hw2]
      refine hK _ ?_
      clear hK K
      refine W.seqK fun K hK => W.regionK tt_ok ?_
      simp only [decide_true, exOps_cons, exOp_eq, exCall_eq, nx_eq, cur_eq, evL, stepQ, ev, ofV, lk, putT, erA, inB, opt, bnd, req, ret, onQ, ap, binG, binF, intF, true_and, and_self, Nat.reduceEqDiff, Nat.reduceLT, Nat.reduceAdd, if_true, if_false, Option.bind_some, Option.map_some, hs3]
      refine CallK.pure _ _ need_fn call42 (by simp only [AV.nmIn, bnd, req, ret, onQ, AV.isTup, isTupL, true_and, and_self, Bool.false_eq_true, List.append_nil, vw.vwL, vw, AV.free, AV.freeL, Bool.or_self]; all_goals (and_intros <;> first | exact AV.subL_refl _ | omega | (simp [AV.sub]; done) | rfl | (simp [AV.subL_refl]; done) | (simp; exact AV.subL_refl _))) ?_
      simp only [exOps_nil, nx_eq, putT, erA, ap, Nat.reduceEqDiff, Nat.reduceAdd, if_false]
      refine hK _ ?_
      clear hK K
      refine W.region tt_ok ?_
      simp only [exOps_cons, exOp_eq, exCall_eq, nx_eq, cur_eq, evL, stepQ, ev, lk, putT, erA, inB, opt, ret, onQ, ap, true_and, Nat.reduceEqDiff, Nat.reduceLT, Nat.reduceAdd, if_true, if_false, Option.bind_some, Option.map_some]
      refine CallK.with [(144, .obj 80 (.agg [.str (s ++ r2)]))] [(144, .obj 80 (.agg [.str r2]))] _ _ c2 call44 (by simp only [AV.nmIn, bnd, req, ret, onQ, AV.isTup, isTupL, and_true, true_and, and_self, Bool.false_eq_true, List.append_nil, vw.vwL, vw, AV.free, Bool.or_self]; all_goals (and_intros <;> first | exact AV.subL_refl _ | omega | (simp [AV.sub, entsFree, Ent.free]; done) | rfl | (simp [AV.subL_refl]; done))) (by simp [leL, lk]) (by intro n hn; first | (left; revert hn; simp [Nm, lk]; done) | (right; revert hn; simp only [Nm, lk]; split <;> simp <;> omega) | (by_cases h1 : Nm [(144, .obj 80 (.agg [.str (s ++ r2)]))] n; exact .inl h1; right; revert hn h1; simp only [Nm, lk]; split <;> (try split) <;> (try split) <;> (try split) <;> (try simp) <;> (try omega))) (by simp [entsIn, Ent.nmIn, AV.nmIn, AV.nmInL]) ?_
      simp only [callDel, exOps_nil, exOps_cons, exOp_eq, exCall_eq, nx_eq, cur_eq, evL, evP, stepQ, ev, lk, putT, erA, inB, opt, bnd, req, ret, onQ, ap, up, er, AV.isTup, AV.isAgg, Kd.agg, comps, szL, csize, takeI, takeC, dropC, stC, stS, bltQ, bltV, appR, appQ, appV, srcQ, Row.len, Row.sz, Row.take, Row.drop, Row.app, Ent.row, bldA, bslQ, zeroCs, cellsRow, strsOf, thn_normal, inb_normal, and_true, true_and, and_self, and_false, or_false, Nat.reduceEqDiff, Nat.reduceLT, Nat.reduceLeDiff, Nat.reduceAdd, Nat.reduceSub, Nat.reduceMul, Nat.sub_self, Nat.le_refl, Nat.add_zero, Nat.zero_add, if_true, if_false, Bool.false_eq_true, reduceCtorEq, Option.bind_some, Option.map_some, List.append_nil, List.nil_append, List.cons_append, tt_9, tt_35, List.map_cons, List.map_nil, List.reverse_cons, List.reverse_nil, lit1, List.flatten_cons, List.flatten_nil, List.length_cons, List.length_nil, List.drop_zero, List.take_succ_cons, List.take_zero]
      first | refine .inl ?_ | skip
      repeat (refine ⟨by omega, ?_⟩)
      refine hK _ ?_
      refine W.region tt_ok ?_
      simp only [exOps_nil, exOps_cons, exOp_eq, nx_eq, cur_eq, stepQ, ev, ofV, lk, putT, erA, inB, opt, bnd, req, ret, onQ, ap, binG, binF, intF, thn_normal, true_and, and_self, Nat.reduceEqDiff, Nat.reduceLT, Nat.reduceAdd, if_true, if_false]
      refine hK3 _ (k + 1 + 1) 2336 1024 (by omega) (by omega) ⟨⟨by simp [Nm, lk], by simp [Nm, lk]⟩, by simp, by simp⟩ ?_
      simp [rdI, htk, hr2, St.swap, tmMap, enMap, swp, AV.map, AV.mapL, Ent.map, Row.map, wk, leL, lk, nmT, nmE, nmH, AV.nmIn, AV.nmInL, Ent.nmIn, Row.nmIn]
      exact ⟨by simpa using hwk, List.take_of_length_le (by omega)⟩
  · obtain rfl : k = l.length := by omega
    have l1 : ¬ ((l.length : Nat) : Int) < (l.length : Int) := by omega
    cases l with
    | nil =>
      simp only [rdI, rS, List.length_nil]
      have l1 : ¬ (0 : Int) < ((0 : Nat) : Int) := by decide
      refine W.seqK fun K hK => W.regionK tt_ok ?_
      simp only [decide_false, exOps_nil, exOps_cons, exOp_eq, nx_eq, cur_eq, stepQ, ev, lk, putT, erA, inB, opt, bnd, req, ret, onQ, ap, binG, binF, intF, true_and, and_self, Nat.reduceEqDiff, Nat.reduceLT, Nat.reduceAdd, if_true, if_false, l1]
      refine hK _ ?_
      clear hK K
      refine W.seqK fun K hK => W.cond (b := false) (by simp only [ev, lk, Nat.reduceEqDiff, if_true, if_false]) (fun h => absurd h (by simp)) (fun _ => W.exit ?_)
      simp only [thn_normal, thn_exit, inb_exit, if_true]
      clear hK K
      refine hKx _ ?_
      refine W.seqK fun K hK => W.regionK tt_ok ?_
      simp only [exOps_cons, exOp_eq, exCall_eq, nx_eq, cur_eq, evL, stepQ, ev, ofV, lk, putT, erA, inB, opt, bnd, req, ret, onQ, ap, binG, binF, strF, notNil, ldP, ldE, ldC, ldS, Kd.agg, comps, csize, takeI, takeC, dropC, fldF, true_and, and_self, Nat.reduceEqDiff, Nat.reduceLT, Nat.reduceLeDiff, Nat.reduceAdd, Nat.reduceSub, Nat.sub_self, Nat.le_refl, Nat.add_zero, if_true, if_false, Bool.false_eq_true, reduceCtorEq, ne_eq, not_false_eq_true, List.getElem?_cons_zero, Option.bind_some, Option.map_some, tt_9, tt_80, beq_self_eq_true]
      refine CallK.pure _ _ need_fn call42 (by simp only [AV.nmIn, bnd, req, ret, onQ, AV.isTup, isTupL, true_and, and_self, Bool.false_eq_true, List.append_nil, vw.vwL, vw, AV.free, AV.freeL, Bool.or_self]; all_goals (and_intros <;> first | exact AV.subL_refl _ | omega | (simp [AV.sub]; done) | rfl | (simp [AV.subL_refl]; done) | (simp; exact AV.subL_refl _))) ?_
      simp only [exOps_nil, nx_eq, putT, erA, ap, Nat.reduceEqDiff, Nat.reduceAdd, if_false]
      refine hK _ ?_
      clear hK K
      refine W.seqK fun K hK => W.regionK tt_ok ?_
      simp only [exOps_nil, exOps_cons, exOp_eq, nx_eq, cur_eq, stepQ, ev, ofV, lk, putT, erA, inB, opt, bnd, req, ret, onQ, ap, up, er, AV.isTup, AV.isAgg, Kd.agg, comps, szL, csize, takeI, takeC, dropC, stP, stE, stC, stS, and_true, true_and, and_self, and_false, Nat.reduceEqDiff, Nat.reduceLT, Nat.reduceLeDiff, Nat.reduceAdd, Nat.reduceSub, Nat.sub_self, Nat.le_refl, Nat.add_zero, Nat.zero_add, if_true, if_false, Bool.false_eq_true, reduceCtorEq, Option.bind_some, Option.map_some, List.append_nil, List.nil_append, tt_63]
      refine hK _ ?_
      clear hK K
      refine W.ret ?_
      simp only [finT_ret, finTB, resQ, lk, opt, bnd, req, ret, onQ, AV.isTup, ldP, ldE, ldC, ldS, Kd.agg, comps, csize, takeI, takeC, dropC, true_and, and_self, Nat.reduceEqDiff, Nat.reduceLeDiff, Nat.reduceSub, Nat.sub_self, Nat.le_refl, if_true, if_false, Bool.false_eq_true, reduceCtorEq, ne_eq, Option.bind_some, Option.map_some, tt_63]
      simp [vw, vw.vwL, bnd, req, ret, AV.nmIn, lsV]
    | cons s0 l0 =>
      have hnil : rS (List.drop (l0.length + 1) (s0 :: l0)) = { data := #[] } := by simp [rS]
      have htk : List.take (l0.length + 1) (s0 :: l0) = s0 :: l0 := by simp
      simp only [rdI, List.length_cons, hnil, htk] at l1 ⊢
      refine W.seqK fun K hK => W.regionK tt_ok ?_
      simp only [decide_false, exOps_nil, exOps_cons, exOp_eq, nx_eq, cur_eq, stepQ, ev, lk, putT, erA, inB, opt, bnd, req, ret, onQ, ap, binG, binF, intF, true_and, and_self, Nat.reduceEqDiff, Nat.reduceLT, Nat.reduceAdd, if_true, if_false, l1]
      refine hK _ ?_
      clear hK K
      refine W.seqK fun K hK => W.cond (b := false) (by simp only [ev, lk, Nat.reduceEqDiff, if_true, if_false]) (fun h => absurd h (by simp)) (fun _ => W.exit ?_)
      simp only [thn_normal, thn_exit, inb_exit, if_true]
      clear hK K
      refine hKx _ ?_
      refine W.seqK fun K hK => W.regionK tt_ok ?_
      simp only [exOps_cons, exOp_eq, exCall_eq, nx_eq, cur_eq, evL, stepQ, ev, ofV, lk, putT, erA, inB, opt, bnd, req, ret, onQ, ap, binG, binF, strF, notNil, ldP, ldE, ldC, ldS, Kd.agg, comps, csize, takeI, takeC, dropC, fldF, true_and, and_self, Nat.reduceEqDiff, Nat.reduceLT, Nat.reduceLeDiff, Nat.reduceAdd, Nat.reduceSub, Nat.sub_self, Nat.le_refl, Nat.add_zero, if_true, if_false, Bool.false_eq_true, reduceCtorEq, ne_eq, not_false_eq_true, List.getElem?_cons_zero, Option.bind_some, Option.map_some, tt_9, tt_80, beq_self_eq_true]
      refine CallK.pure _ _ need_fn call42 (by simp only [AV.nmIn, bnd, req, ret, onQ, AV.isTup, isTupL, true_and, and_self, Bool.false_eq_true, List.append_nil, vw.vwL, vw, AV.free, AV.freeL, Bool.or_self]; all_goals (and_intros <;> first | exact AV.subL_refl _ | omega | (simp [AV.sub]; done) | rfl | (simp [AV.subL_refl]; done) | (simp; exact AV.subL_refl _))) ?_
      simp only [exOps_nil, nx_eq, putT, erA, ap, Nat.reduceEqDiff, Nat.reduceAdd, if_false]
      refine hK _ ?_
      clear hK K
      refine W.seqK fun K hK => W.regionK tt_ok ?_
      simp only [exOps_nil, exOps_cons, exOp_eq, nx_eq, cur_eq, stepQ, ev, ofV, lk, putT, erA, inB, opt, bnd, req, ret, onQ, ap, up, er, AV.isTup, AV.isAgg, Kd.agg, comps, szL, csize, takeI, takeC, dropC, stP, stE, stC, stS, and_true, true_and, and_self, and_false, Nat.reduceEqDiff, Nat.reduceLT, Nat.reduceLeDiff, Nat.reduceAdd, Nat.reduceSub, Nat.sub_self, Nat.le_refl, Nat.add_zero, Nat.zero_add, if_true, if_false, Bool.false_eq_true, reduceCtorEq, Option.bind_some, Option.map_some, List.append_nil, List.nil_append, tt_63]
      refine hK _ ?_
      clear hK K
      refine W.ret ?_
      simp only [finT_ret, finTB, resQ, lk, opt, bnd, req, ret, onQ, AV.isTup, ldP, ldE, ldC, ldS, Kd.agg, comps, csize, takeI, takeC, dropC, true_and, and_self, Nat.reduceEqDiff, Nat.reduceLeDiff, Nat.reduceSub, Nat.sub_self, Nat.le_refl, if_true, if_false, Bool.false_eq_true, reduceCtorEq, ne_eq, Option.bind_some, Option.map_some, tt_63]
      simp [vw, vw.vwL, viewR, lk, Ent.row, opt, bnd, req, ret, AV.nmIn, lsV]
theorem call36 : Callable Try.prog 36 := ⟨_, Try.func36, by kernel_rfl, by kernel_rfl⟩
end Go.Proofs.Ytjnhpklhdikcdaa
