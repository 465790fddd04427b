/- The tag of both: sum. -/
import Derived.Test.YtakgcmponelbeaaDoorAeD
import Derived.Test.YtakgcmponelbeaaDoorAmB
import Derived.Test.YtakgcmponelbeaaDoorAgD
-- TT 3 5 22 23 24 36 43 45 51 54
set_option linter.unusedVariables false
set_option linter.unusedSimpArgs false
namespace Go.Proofs.YtakgcmponelbeaaDoor
open Sx
open Tg (sumN sum_fn)
open Sm (blockS block_fn)
set_option maxRecDepth 100000
theorem call20 : Callable Tryd.prog 20 := ⟨_, Tryd.func20, by kernel_rfl, by kernel_rfl⟩
theorem call22 : Callable Tryd.prog 22 := ⟨_, Tryd.func22, by kernel_rfl, by kernel_rfl⟩

/-- Filled up to a multiple of 16. -/
def padL (xs : List Int) : List Int := xs ++ List.replicate ((16 - xs.length % 16) % 16) 0
def macD (ad c : List Int) : List Int := lowL (lowL (padL (padL ad ++ c)) ad.length 8) c.length 8
def tagN (key nonce ad c : List Int) : List Int := sumN ((blockS key nonce 0).take 32) (macD ad c)
/-- Arms that come to one state, up to two names that are exchanged. -/
theorem W.joinS {P : Program} {G : Nat → Option AV} {h : Ents} {x y : Code} {st : St} {Q : Exit → St → Prop} (st' : St)
    (hx : ∀ K : St → Prop, (∀ s a b, (¬ Nm h a ∧ ¬ Nm h b) ∧ a < s.n ∧ b < s.n → wk h (s.swap a b) st' → K s) → W P G h x st (thn K Q)) (hy : W P G h y st' Q) : W P G h (.seq x y) st Q :=
  W.seqK fun K hK => hx K fun s a b h1 hs => hK s (W.swap a b h1 (W.weak st' hs hy))
def bT (xs : List Int) : AV :=
  match xs with
  | [] => .nils
  | _ :: _ => .sl 2000 1 0 xs.length
def bE (xs : List Int) : Ents :=
  match xs with
  | [] => []
  | _ :: _ => [(2000, .vec 5 (.ints .u8 xs))]
def elK (ad c : List Int) (k : Nat) : List Int := if k = 0 then ad else c
def bK (ad c : List Int) : Nat → List Int
  | 0 => []
  | k + 1 => padL (bK ad c k ++ elK ad c k)
def sJ (key nonce ad c : List Int) (k : Nat) (xs : List Int) : St :=
  ⟨[(20, .int .i64 (k : Int)), (19, .int .i64 2), (18, .sl 192 1 0 2), (8, bT xs), (7, .ptr 112 0 0 1), (6, .ptr 16 0 0 1), (1, .lstI .u8 ad), (2, .lstI .u8 c)],
    bE xs ++ [(192, .vec 24 (.avs 1 [.lstI .u8 ad, .lstI .u8 c])), (112, .obj 51 (.agg [.ints .u8 64 (blockS key nonce 0)])), (16, .obj 45 (.agg [.ints .u8 16 (List.replicate 16 0)]))], 2048, 49⟩
theorem pad_len (xs : List Int) : (padL xs).length ≤ xs.length + 15 := by simp [padL]; omega
theorem bK_len (ad c : List Int) (ha : ad.length ≤ 70000) (hc : c.length ≤ 70000) : ∀ k, (bK ad c k).length ≤ 70015 * k
  | 0 => by simp [bK]
  | k + 1 => by
    have h := bK_len ad c ha hc k
    have h2 := pad_len (bK ad c k ++ elK ad c k)
    have h3 : (elK ad c k).length ≤ 70000 := by unfold elK; split <;> assumption
    simp only [bK, List.length_append] at h2 ⊢
    omega
theorem sumL_fn (key nonce ad c : List Int) (hk : key.length = 32) (hn : nonce.length = 12) (ha : ad.length ≤ 70000) (hc : c.length ≤ 70000) :
    FnR Tryd.prog G 15 [.agg [.ints .u8 32 key, .ints .u8 12 nonce], .lstI .u8 ad, .lstI .u8 c] [] (.agg [.ints .u8 16 (tagN key nonce ad c)]) [] := by
  refine FnR.of_walk (m := 49) (n0 := 0) tt_ok Tryd.func15 rfl rfl (by simp) (by simp [nmH]) ?_
  rw [show Tryd.f15.results.toList = [.cell 6 45] from rfl]
  refine W.seqK fun K hK => W.regionK tt_ok ?_
  simp only [exOps_nil, exOps_cons, exOp_eq, nx_eq, cur_eq, stepQ, ev, lk, parT, putT, erA, inB, opt, req, ret, onQ, ap, up, er, AV.isTup, true_and, and_self, Nat.reduceEqDiff, Nat.reduceLT, Nat.reduceAdd, Nat.zero_add, if_true, if_false, reduceCtorEq, tt_45]
  refine hK _ ?_
  clear hK K
  refine W.seqK fun K hK => W.regionK tt_ok ?_
  simp only [exOps_cons, exOp_eq, exCall_eq, nx_eq, cur_eq, evL, stepQ, ev, ofV, lk, putT, erA, inB, opt, bnd, req, ret, onQ, ap, ldP, ldE, ldC, ldS, Kd.agg, comps, csize, takeI, takeC, dropC, fldF, and_true, true_and, and_self, Nat.reduceEqDiff, Nat.reduceLT, Nat.reduceLeDiff, Nat.reduceAdd, Nat.reduceSub, Nat.sub_self, Nat.le_refl, Nat.add_zero, Nat.zero_add, if_true, if_false, reduceCtorEq, ne_eq, not_false_eq_true, List.getElem?_cons_zero, List.getElem?_cons_succ, Option.bind_some, Option.map_some, tt_22, tt_36, tt_43]
  refine CallK.pure _ _ (block_fn key nonce 0 hk hn) call20 (by simp only [AV.nmIn, bnd, req, ret, onQ, AV.isTup, isTupL, true_and, and_self, Bool.false_eq_true, List.append_nil, vw.vwL, vw, AV.free, AV.freeL, Bool.or_self]; all_goals (and_intros <;> first | exact AV.subL_refl _ | omega | rfl | (simp []; done) | (simp; exact AV.subL_refl _) | (simp [AV.subL, AV.sub]; done))) ?_
  simp only [exOps_nil, exOps_cons, exOp_eq, nx_eq, cur_eq, stepQ, ev, lk, putT, erA, inB, opt, bnd, req, ret, onQ, ap, up, er, AV.isAgg, Kd.agg, comps, szL, csize, takeI, takeC, dropC, stP, stE, stC, stS, true_and, and_self, Nat.reduceEqDiff, Nat.reduceLT, Nat.reduceLeDiff, Nat.reduceAdd, Nat.reduceSub, Nat.sub_self, Nat.le_refl, Nat.add_zero, Nat.zero_add, if_true, if_false, reduceCtorEq, Option.bind_some, Option.map_some, List.append_nil, List.nil_append, tt_51]
  refine hK _ ?_
  clear hK K
  refine W.seqK fun K hK => W.regionK tt_ok ?_
  simp only [exOps_nil, exOps_cons, exOp_eq, nx_eq, cur_eq, stepQ, ev, ofV, putT, erA, inB, opt, ret, onQ, ap, true_and, Nat.reduceEqDiff, Nat.reduceLT, Nat.reduceAdd, if_false, reduceCtorEq]
  refine hK _ ?_
  clear hK K
  refine W.seqK fun Kz hKz => ?_
  refine W.seqK fun K hK => W.regionK tt_ok ?_
  simp only [exOps_nil, exOps_cons, exOp_eq, exCall_eq, nx_eq, cur_eq, evL, evP, stepQ, ev, ofV, lk, putT, erA, inB, opt, bnd, req, ret, onQ, ap, up, er, AV.isTup, AV.isAgg, Kd.agg, comps, szL, csize, takeI, takeC, dropC, stC, stS, bltQ, bltV, lenF, Row.len, Row.sz, bldA, bslQ, zeroCs, cellsRow, chunks, ones, and_true, true_and, and_self, and_false, or_false, Nat.reduceEqDiff, Nat.reduceLT, Nat.reduceLeDiff, Nat.reduceAdd, Nat.reduceSub, Nat.reduceMul, Nat.sub_self, Nat.le_refl, Nat.add_zero, Nat.zero_add, if_true, if_false, cond_true, cond_false, Bool.false_eq_true, reduceCtorEq, List.getElem?_cons_zero, Option.bind_some, Option.map_some, List.append_nil, List.nil_append, List.cons_append, tt_24, tt_54, show (List.replicate 2 [AV.nils]).flatten = [.nils, .nils] from rfl, beq_self_eq_true, Bool.and_self, List.length_cons, List.length_nil]
  refine hK _ ?_
  clear hK K
  refine W.blockK ?_
  refine W.loopS (fun k : Nat => k ≤ 2) (fun k => sJ key nonce ad c k (bK ad c k)) (fun k => 2 - k) 0 (by simp) (by simp [sJ, bT, bE, bK, wk, leL, lk, nmT, nmE, nmH, AV.nmIn, AV.nmInL, Ent.nmIn, Row.nmIn]) ?_
  intro k hk2 K3 hK3
  simp only [sJ]
  have hbl := bK_len ad c ha hc k
  obtain ⟨xs, hxs⟩ : ∃ xs, bK ad c k = xs := ⟨_, rfl⟩
  by_cases hlt : k < 2
  · have c1 : (k : Int) < 2 := by omega
    have he : ([AV.lstI .u8 ad, AV.lstI .u8 c] : List AV).getD k default = .lstI .u8 (elK ad c k) := by
      match k, hlt with
      | 0, _ => rfl
      | 1, _ => rfl
    rw [hxs] at hbl ⊢
    refine W.seqK fun K hK => W.regionK tt_ok ?_
    simp only [decide_true, exOps_nil, exOps_cons, exOp_eq, nx_eq, cur_eq, stepQ, ev, lk, putT, erA, inB, opt, bnd, req, ret, onQ, ap, binG, binF, intF, true_and, and_self, Nat.reduceEqDiff, Nat.reduceLT, Nat.reduceAdd, if_true, if_false, c1]
    refine hK _ ?_
    clear hK K
    refine W.seqK fun K hK => ?_
    refine W.cond (b := true) (by simp only [ev, lk, Nat.reduceEqDiff, if_true, if_false]) (fun _ => W.skip ?_) (fun h => absurd h (by simp))
    rw [thn_normal]
    refine hK _ ?_
    clear hK K
    refine W.seqK fun K hK => W.blockK ?_
    have hrow : ∀ l : Ents, lk (bE xs ++ (192, Ent.vec 24 (Row.avs 1 [AV.lstI IntKind.u8 ad, AV.lstI IntKind.u8 c])) :: l) 192 = some (Ent.vec 24 (Row.avs 1 [AV.lstI IntKind.u8 ad, AV.lstI IntKind.u8 c])) := by
      intro l; cases xs <;> simp [bE, lk]
    refine W.seqK fun K hK => W.regionK tt_ok ?_
    simp only [exOps_nil, exOps_cons, exOp_eq, nx_eq, cur_eq, stepQ, ev, lk, putT, erA, inB, opt, bnd, req, ret, onQ, ap, Kd.elem, ixA, asI, ldP, ldE, ldC, ldS, Kd.agg, comps, csize, takeI, takeC, dropC, and_true, true_and, and_self, Nat.reduceEqDiff, Nat.reduceLT, Nat.reduceLeDiff, Nat.reduceAdd, Nat.reduceSub, Nat.sub_self, Int.toNat_natCast, Nat.le_refl, Nat.zero_add, if_true, if_false, Bool.false_eq_true, reduceCtorEq, Option.bind_some, Option.map_some, tt_24, tt_54, hrow, he]
    repeat (refine ⟨by omega, ?_⟩)
    refine hK _ ?_
    clear hK K
    have hel : (elK ad c k).length ≤ 70000 := by unfold elK; split <;> assumption
    obtain ⟨ys, hys⟩ : ∃ ys, elK ad c k = ys := ⟨_, rfl⟩
    rw [hys] at hel ⊢
    refine W.joinS (sJ key nonce ad c k (xs ++ ys)) (fun K hK => ?_) ?_
    · cases xs with
      | nil =>
        cases ys with
        | nil =>
          simp only [bT, bE]
          refine W.regionK tt_ok ?_
          simp only [exOps_nil, exOps_cons, exOp_eq, exCall_eq, nx_eq, cur_eq, curV_eq, evL, stepQ, ev, lk, putT, erA, inB, opt, bnd, req, ret, onQ, ap, bltQ, bltV, appQ, appV, srcQ, rowOf, Row.len, Row.sz, Row.lst, and_true, true_and, and_self, Nat.reduceEqDiff, Nat.reduceLT, Nat.reduceAdd, Nat.reduceMul, Nat.zero_le, if_true, if_false, ne_eq, not_true_eq_false, Option.bind_some, Option.map_some, List.nil_append, tt_5, tt_24, List.length_nil]
          refine Or.inl ?_
          refine hK _ 0 0 ⟨⟨by simp [Nm, lk], by simp [Nm, lk]⟩, by simp, by simp⟩ ?_
          simp [sJ, bT, bE, St.swap, tmMap, enMap, swp, AV.map, AV.mapL, Ent.map, Row.map, wk, leL, lk, nmT, nmE, nmH, AV.nmIn, AV.nmInL, Ent.nmIn, Row.nmIn]
        | cons y ys =>
          simp only [bT, bE]
          refine W.regionK tt_ok ?_
          simp only [exOps_nil, exOps_cons, exOp_eq, exCall_eq, nx_eq, cur_eq, curV_eq, evL, stepQ, ev, lk, putT, erA, inB, opt, bnd, req, ret, onQ, ap, up, er, bltQ, bltV, appQ, appV, srcQ, rowOf, Row.len, Row.sz, Row.lst, and_true, true_and, and_self, Nat.reduceEqDiff, Nat.reduceLT, Nat.reduceAdd, if_true, if_false, reduceCtorEq, ne_eq, not_false_eq_true, Option.bind_some, Option.map_some, List.nil_append, tt_5, tt_24]
          refine Or.inl ⟨⟨by omega, by omega⟩, ?_⟩
          refine hK _ 2144 2000 ⟨⟨by simp [Nm, lk], by simp [Nm, lk]⟩, by simp, by simp⟩ ?_
          simp [sJ, bT, bE, St.swap, tmMap, enMap, swp, AV.map, AV.mapL, Ent.map, Row.map, wk, leL, lk, nmT, nmE, nmH, AV.nmIn, AV.nmInL, Ent.nmIn, Row.nmIn]
      | cons x xs =>
        simp only [bT, bE]
        refine W.regionK tt_ok ?_
        simp only [exOps_nil, exOps_cons, exOp_eq, exCall_eq, nx_eq, cur_eq, evL, stepQ, ev, lk, putT, erA, inB, opt, bnd, req, ret, onQ, ap, up, er, bltQ, bltV, appQ, appV, srcQ, rowOf, Row.len, Row.sz, Row.take, Row.app, and_true, true_and, and_self, or_false, Nat.reduceEqDiff, Nat.reduceLT, Nat.reduceAdd, Nat.le_refl, if_true, if_false, Option.bind_some, Option.map_some, List.nil_append, List.cons_append, tt_5, tt_24]
        refine ⟨⟨by omega, by omega⟩, ?_⟩
        refine hK _ 2144 2000 ⟨⟨by simp [Nm, lk], by simp [Nm, lk]⟩, by simp, by simp⟩ ?_
        simp [sJ, bT, bE, Nat.add_assoc, Nat.add_comm, St.swap, tmMap, enMap, swp, AV.map, AV.mapL, Ent.map, Row.map, wk, leL, lk, nmT, nmE, nmH, AV.nmIn, AV.nmInL, Ent.nmIn, Row.nmIn]
    refine W.blockK ?_
    refine W.loopS (fun j : Nat => j ≤ (16 - (xs ++ ys).length % 16) % 16) (fun j => sJ key nonce ad c k ((xs ++ ys) ++ List.replicate j 0)) (fun j => (16 - (xs ++ ys).length % 16) % 16 - j) 0 (by simp) (by cases xs <;> cases ys <;> simp [sJ, bT, bE, Nat.add_comm, Nat.add_left_comm, wk, leL, lk, nmT, nmE, nmH, AV.nmIn, AV.nmInL, Ent.nmIn, Row.nmIn]) ?_
    intro j hj K4 hK4
    simp only [sJ]
    have hzl : ((xs ++ ys) ++ List.replicate j 0).length = (xs ++ ys).length + j := by rw [List.length_append, List.length_replicate]
    have hzs : ((xs ++ ys) ++ List.replicate (j + 1) 0) = ((xs ++ ys) ++ List.replicate j 0) ++ [0] := by rw [List.replicate_succ', ← List.append_assoc]
    have hpad : j = (16 - (xs ++ ys).length % 16) % 16 → ((xs ++ ys) ++ List.replicate j 0) = bK ad c (k + 1) := by
      intro h; rw [bK, hxs, hys, padL, ← h]
    have hll : (xs ++ ys).length ≤ 210045 := by rw [List.length_append]; omega
    generalize hM : (xs ++ ys).length = M at *
    generalize hZ : ((xs ++ ys) ++ List.replicate j 0) = zs at *
    have hq : Int.tmod (zs.length : Int) 16 = ((zs.length % 16 : Nat) : Int) := by rw [Int.tmod_eq_emod_of_nonneg (by omega)]; omega
    refine W.seqK fun K5 hK5 => ?_
    cases zs with
    | nil =>
      simp only [bT, bE]
      have c7 : ¬ (0 : Int) < Int.tmod (0 : Int) 16 := by decide
      refine W.seqK fun K hK => W.regionK tt_ok ?_
      simp only [decide_false, exOps_nil, exOps_cons, exOp_eq, exCall_eq, nx_eq, cur_eq, evL, stepQ, ev, ofV, lk, putT, erA, inB, opt, bnd, req, ret, onQ, ap, binG, binF, intF, bltQ, bltV, lenF, and_true, true_and, and_self, or_false, Nat.reduceEqDiff, Nat.reduceLT, Nat.reduceAdd, if_true, if_false, ne_eq, List.getElem?_cons_zero, Option.bind_some, Option.map_some, List.nil_append, tt_24, c7]
      repeat (refine ⟨by omega, ?_⟩)
      refine hK _ ?_
      clear hK K
      refine W.cond (b := false) (by simp only [ev, lk, Nat.reduceEqDiff, if_true, if_false]) (fun h => absurd h (by simp)) (fun _ => W.exit ?_)
      simp only [thn_normal, thn_exit, inb_normal, inb_exit, Nat.reduceEqDiff, if_true, if_false, reduceCtorEq]
      refine hK _ ?_
      have hb := hpad (by simp only [List.length_nil] at hzl; omega)
      refine W.region tt_ok ?_
      simp only [exOps_nil, exOps_cons, exOp_eq, nx_eq, cur_eq, stepQ, ev, ofV, lk, putT, erA, inB, opt, bnd, req, ret, onQ, ap, binG, binF, intF, thn_normal, true_and, and_self, Nat.reduceEqDiff, Nat.reduceLT, Nat.reduceAdd, if_true, if_false, wrap_up k (by omega)]
      refine hK3 _ (k + 1) 0 0 (by omega) (by omega) ⟨⟨by simp [Nm, lk], by simp [Nm, lk]⟩, by simp, by simp⟩ ?_
      simp only [← hb]
      simp [sJ, bT, bE, St.swap, tmMap, enMap, swp, AV.map, AV.mapL, Ent.map, Row.map, wk, leL, lk, nmT, nmE, nmH, AV.nmIn, AV.nmInL, Ent.nmIn, Row.nmIn]
    | cons z zs =>
      simp only [bT, bE]
      by_cases hjp : j < (16 - M % 16) % 16
      · have c7 : (0 : Int) < ((((z :: zs).length % 16 : Nat)) : Int) := by omega
        refine W.seqK fun K hK => W.regionK tt_ok ?_
        simp only [decide_true, exOps_nil, exOps_cons, exOp_eq, exCall_eq, nx_eq, cur_eq, evL, stepQ, ev, ofV, lk, putT, erA, inB, opt, bnd, req, ret, onQ, ap, binG, binF, intF, bltQ, bltV, lenF, and_true, true_and, and_self, or_false, Nat.reduceEqDiff, Nat.reduceLT, Nat.reduceAdd, if_true, if_false, ne_eq, List.getElem?_cons_zero, Option.bind_some, Option.map_some, List.nil_append, List.cons_append, tt_24, hq, c7]
        repeat (refine ⟨by omega, ?_⟩)
        refine hK _ ?_
        clear hK K
        refine W.cond (b := true) (by simp only [ev, lk, Nat.reduceEqDiff, if_true, if_false]) (fun _ => W.skip ?_) (fun h => absurd h (by simp))
        rw [thn_normal]
        refine hK5 _ ?_
        rw [List.length_cons] at hzl
        refine W.blockK ?_
        refine W.region tt_ok ?_
        simp only [exOps_nil, exOps_cons, exOp_eq, exCall_eq, nx_eq, cur_eq, evL, evP, stepQ, ev, ofV, lk, putT, erA, inB, opt, bnd, req, ret, onQ, ap, up, er, AV.isTup, AV.isAgg, intsOf, Kd.agg, comps, szL, csize, takeI, takeC, dropC, stC, stS, bltQ, bltV, appQ, appV, srcQ, Row.len, Row.sz, Row.take, Row.drop, Row.app, Ent.row, bldA, bslQ, zeroCs, cellsRow, thn_normal, inb_normal, and_true, true_and, and_self, and_false, or_false, Nat.reduceEqDiff, Nat.reduceLT, Nat.reduceLeDiff, Nat.reduceAdd, Nat.reduceSub, Nat.reduceMul, Nat.sub_self, Nat.le_refl, Nat.add_zero, Nat.zero_add, if_true, if_false, Bool.false_eq_true, Option.bind_some, Option.map_some, List.append_nil, List.nil_append, List.cons_append, tt_5, tt_24, List.replicate_succ, List.replicate_zero, List.set_cons_zero, List.length_cons, List.length_nil, List.drop_zero, List.take_succ_cons, List.take_zero, Nat.one_ne_zero, Nat.zero_add, List.take_length]
        repeat (refine ⟨by omega, ?_⟩)
        refine hK4 _ (j + 1) 2144 2000 (by omega) (by omega) ⟨⟨by simp [Nm, lk], by simp [Nm, lk]⟩, by simp, by simp⟩ ?_
        simp only [hzs]
        simp [sJ, bT, bE, Nat.add_comm, Nat.add_left_comm, St.swap, tmMap, enMap, swp, AV.map, AV.mapL, Ent.map, Row.map, wk, leL, lk, nmT, nmE, nmH, AV.nmIn, AV.nmInL, Ent.nmIn, Row.nmIn]
      · have c7 : ¬ (0 : Int) < ((((z :: zs).length % 16 : Nat)) : Int) := by omega
        refine W.seqK fun K hK => W.regionK tt_ok ?_
        simp only [decide_false, exOps_nil, exOps_cons, exOp_eq, exCall_eq, nx_eq, cur_eq, evL, stepQ, ev, ofV, lk, putT, erA, inB, opt, bnd, req, ret, onQ, ap, binG, binF, intF, bltQ, bltV, lenF, and_true, true_and, and_self, or_false, Nat.reduceEqDiff, Nat.reduceLT, Nat.reduceAdd, if_true, if_false, ne_eq, List.getElem?_cons_zero, Option.bind_some, Option.map_some, List.nil_append, List.cons_append, tt_24, hq, c7]
        repeat (refine ⟨by omega, ?_⟩)
        refine hK _ ?_
        clear hK K
        refine W.cond (b := false) (by simp only [ev, lk, Nat.reduceEqDiff, if_true, if_false]) (fun h => absurd h (by simp)) (fun _ => W.exit ?_)
        simp only [thn_normal, thn_exit, inb_normal, inb_exit, Nat.reduceEqDiff, if_true, if_false, reduceCtorEq]
        refine hK _ ?_
        have hb := hpad (by omega)
        refine W.region tt_ok ?_
        simp only [exOps_nil, exOps_cons, exOp_eq, nx_eq, cur_eq, stepQ, ev, ofV, lk, putT, erA, inB, opt, bnd, req, ret, onQ, ap, binG, binF, intF, thn_normal, true_and, and_self, Nat.reduceEqDiff, Nat.reduceLT, Nat.reduceAdd, if_true, if_false, wrap_up k (by omega)]
        refine hK3 _ (k + 1) 0 0 (by omega) (by omega) ⟨⟨by simp [Nm, lk], by simp [Nm, lk]⟩, by simp, by simp⟩ ?_
        simp only [← hb]
        simp [sJ, bT, bE, St.swap, tmMap, enMap, swp, AV.map, AV.mapL, Ent.map, Row.map, wk, leL, lk, nmT, nmE, nmH, AV.nmIn, AV.nmInL, Ent.nmIn, Row.nmIn]
  · have hk' : k = 2 := by omega
    subst hk'
    have c1 : ¬ ((2 : Nat) : Int) < 2 := by omega
    have hm : macD ad c = lowL (lowL xs ad.length 8) c.length 8 := by rw [← hxs]; rfl
    rw [hxs] at hbl ⊢
    refine W.seqK fun K hK => W.regionK tt_ok ?_
    simp only [decide_false, exOps_nil, exOps_cons, exOp_eq, nx_eq, cur_eq, stepQ, ev, lk, putT, erA, inB, opt, bnd, req, ret, onQ, ap, binG, binF, intF, true_and, and_self, Nat.reduceEqDiff, Nat.reduceLT, Nat.reduceAdd, if_true, if_false, c1]
    refine hK _ ?_
    clear hK K
    refine W.seqK fun K hK => ?_
    refine W.cond (b := false) (by simp only [ev, lk, Nat.reduceEqDiff, if_true, if_false]) (fun h => absurd h (by simp)) (fun _ => W.exit ?_)
    simp only [thn_normal, thn_exit, inb_exit, if_true]
    refine hKz _ ?_
    have hwa : IntKind.u64.wrap (ad.length : Int) = ad.length := by rw [IntKind.wrap_u64]; omega
    have hwc : IntKind.u64.wrap (c.length : Int) = c.length := by rw [IntKind.wrap_u64]; omega
    refine W.joinK ⟨[(8, .sl 2192 1 0 (macD ad c).length), (7, .ptr 112 0 0 1), (6, .ptr 16 0 0 1)], [(2192, .vec 5 (.ints .u8 (macD ad c))), (112, .obj 51 (.agg [.ints .u8 64 (blockS key nonce 0)])), (16, .obj 45 (.agg [.ints .u8 16 (List.replicate 16 0)]))], 2224, 49⟩ (fun K hK => ?_) ?_
    · cases xs with
      | nil =>
        simp only [bT, bE]
        refine W.regionK tt_ok ?_
        simp only [exOps_cons, exOp_eq, exCall_eq, nx_eq, cur_eq, evL, stepQ, ev, lk, putT, erA, inB, opt, bnd, req, ret, onQ, ap, bltQ, bltV, lenF, cvQ, true_and, and_self, or_false, Nat.reduceEqDiff, Nat.reduceLT, Nat.reduceAdd, if_true, if_false, List.getElem?_cons_zero, Option.bind_some, Option.map_some, List.nil_append, tt_3, tt_23, tt_24, hwa]
        refine CallK.with [] [(2128, .vec 5 (.ints .u8 (lowL [] ad.length 8)))] _ _ (lowNil_at 2128 ad.length) call21 (by simp only [AV.nmIn, bnd, req, ret, onQ, AV.isTup, isTupL, true_and, and_self, Bool.false_eq_true, List.append_nil, vw.vwL, vw, AV.free, Bool.or_self]; all_goals (and_intros <;> first | exact AV.subL_refl _ | omega | rfl | (simp []; done) | (simp [AV.subL, AV.sub, entsFree]; done))) (by simp [leL]) (by intro n hn; first | (left; revert hn; simp [Nm, lk]; done) | (right; revert hn; simp only [Nm, lk]; split <;> simp <;> omega)) (by simp [entsIn]) ?_
        simp only [callDel, exOps_cons, exOp_eq, exCall_eq, nx_eq, cur_eq, evL, stepQ, ev, lk, putT, erA, inB, opt, bnd, req, ret, onQ, ap, up, er, bltQ, bltV, lenF, cvQ, true_and, and_self, or_false, Nat.reduceEqDiff, Nat.reduceLT, Nat.reduceAdd, if_true, if_false, List.getElem?_cons_zero, Option.bind_some, Option.map_some, List.nil_append, tt_3, tt_23, tt_24, List.map_cons, List.map_nil, List.reverse_cons, List.reverse_nil, hwc]
        refine CallK.with [(2128, .vec 5 (.ints .u8 (lowL [] ad.length 8)))] [(2192, .vec 5 (.ints .u8 (lowL (lowL [] ad.length 8) c.length 8)))] _ _ (low_at 2128 2192 8 (lowL [] ad.length 8) c.length (by rw [lowL_len]; rfl) (by rw [lowL_len]; simp) (by decide)) call21 (by simp only [AV.nmIn, lk, bnd, req, ret, onQ, AV.isTup, isTupL, true_and, and_self, if_true, Bool.false_eq_true, List.append_nil, vw.vwL, vw, AV.free, Bool.or_self]; all_goals (and_intros <;> first | exact AV.subL_refl _ | omega | rfl | (simp []; done) | (simp [AV.subL, AV.sub, entsFree]; done))) (by simp [leL, lk]) (by intro n hn; first | (left; revert hn; simp [Nm, lk]; done) | (right; revert hn; simp only [Nm, lk]; split <;> simp <;> omega)) (by simp [entsIn, Ent.nmIn, Row.nmIn]) ?_
        simp only [callDel, exOps_nil, exOps_cons, exOp_eq, nx_eq, cur_eq, stepQ, ev, lk, putT, erA, inB, opt, ret, onQ, ap, up, er, true_and, Nat.reduceEqDiff, Nat.reduceLT, Nat.reduceAdd, if_true, if_false, List.nil_append, List.cons_append, List.map_cons, List.map_nil, List.reverse_cons, List.reverse_nil]
        refine hK _ ?_
        have hml : (macD ad c).length = 16 := by rw [hm]; simp [lowL_len]
        rw [hml, hm]
        simp [wk, leL, lk, nmT, nmE, nmH, AV.nmIn, AV.nmInL, Ent.nmIn, Row.nmIn]
      | cons x xs =>
        simp only [bT, bE]
        refine W.regionK tt_ok ?_
        simp only [exOps_cons, exOp_eq, exCall_eq, nx_eq, cur_eq, evL, stepQ, ev, lk, putT, erA, inB, opt, bnd, req, ret, onQ, ap, bltQ, bltV, lenF, cvQ, true_and, and_self, or_false, Nat.reduceEqDiff, Nat.reduceLT, Nat.reduceAdd, if_true, if_false, List.getElem?_cons_zero, Option.bind_some, Option.map_some, List.nil_append, List.cons_append, tt_3, tt_23, tt_24, hwa]
        refine CallK.with [(2000, .vec 5 (.ints .u8 (x :: xs)))] [(2128, .vec 5 (.ints .u8 (lowL (x :: xs) ad.length 8)))] _ _ (low_at 2000 2128 (x :: xs).length (x :: xs) ad.length rfl (by omega) (by decide)) call21 (by simp only [AV.nmIn, lk, bnd, req, ret, onQ, AV.isTup, isTupL, true_and, and_self, if_true, Bool.false_eq_true, List.append_nil, vw.vwL, vw, AV.free, Bool.or_self]; all_goals (and_intros <;> first | exact AV.subL_refl _ | omega | rfl | (simp []; done) | (simp [AV.subL, AV.sub, entsFree]; done))) (by simp [leL, lk]) (by intro n hn; first | (left; revert hn; simp [Nm, lk]; done) | (right; revert hn; simp only [Nm, lk]; split <;> simp <;> omega)) (by simp [entsIn, Ent.nmIn, Row.nmIn]) ?_
        simp only [callDel, exOps_cons, exOp_eq, exCall_eq, nx_eq, cur_eq, evL, stepQ, ev, lk, putT, erA, inB, opt, bnd, req, ret, onQ, ap, up, er, bltQ, bltV, lenF, cvQ, true_and, and_self, or_false, Nat.reduceEqDiff, Nat.reduceLT, Nat.reduceAdd, if_true, if_false, List.getElem?_cons_zero, Option.bind_some, Option.map_some, List.nil_append, List.cons_append, tt_3, tt_23, tt_24, List.map_cons, List.map_nil, List.reverse_cons, List.reverse_nil, hwc]
        refine CallK.with [(2128, .vec 5 (.ints .u8 (lowL (x :: xs) ad.length 8)))] [(2192, .vec 5 (.ints .u8 (lowL (lowL (x :: xs) ad.length 8) c.length 8)))] _ _ (low_at 2128 2192 ((x :: xs).length + 8) (lowL (x :: xs) ad.length 8) c.length (by rw [lowL_len]) (by rw [lowL_len]; omega) (by decide)) call21 (by simp only [AV.nmIn, lk, bnd, req, ret, onQ, AV.isTup, isTupL, true_and, and_self, if_true, Bool.false_eq_true, List.append_nil, vw.vwL, vw, AV.free, Bool.or_self]; all_goals (and_intros <;> first | exact AV.subL_refl _ | omega | rfl | (simp []; done) | (simp [AV.subL, AV.sub, entsFree]; done))) (by simp [leL, lk]) (by intro n hn; first | (left; revert hn; simp [Nm, lk]; done) | (right; revert hn; simp only [Nm, lk]; split <;> simp <;> omega)) (by simp [entsIn, Ent.nmIn, Row.nmIn]) ?_
        simp only [callDel, exOps_nil, exOps_cons, exOp_eq, nx_eq, cur_eq, stepQ, ev, lk, putT, erA, inB, opt, ret, onQ, ap, up, er, true_and, Nat.reduceEqDiff, Nat.reduceLT, Nat.reduceAdd, if_true, if_false, List.nil_append, List.cons_append, List.map_cons, List.map_nil, List.reverse_cons, List.reverse_nil]
        refine hK _ ?_
        have hml : (macD ad c).length = ((x :: xs).length + 8) + 8 := by rw [hm]; simp [lowL_len]
        rw [hml, hm]
        simp [wk, leL, lk, nmT, nmE, nmH, AV.nmIn, AV.nmInL, Ent.nmIn, Row.nmIn]
    have hmb : (macD ad c).length ≤ 200000 := by rw [hm]; simp only [lowL_len]; omega
    have hbk : (blockS key nonce 0).length = 64 := Sm.outB_len _ _ _
    have hkl : ((blockS key nonce 0).take 32).length = 32 := by rw [List.length_take, hbk]; rfl
    have c2 := sum_fn ((blockS key nonce 0).take 32) (macD ad c) hkl (by omega)
    have hres : tagN key nonce ad c = sumN ((blockS key nonce 0).take 32) (macD ad c) := rfl
    rw [hres]
    generalize hB : blockS key nonce 0 = B at *
    generalize hMM : macD ad c = M at *
    have hFt : List.take M.length M = M := List.take_length
    rw [← hFt] at c2
    refine W.seqK fun K hK => W.regionK tt_ok ?_
    simp only [exOps_cons, exOp_eq, exCall_eq, nx_eq, cur_eq, evL, stepQ, ev, ofV, lk, putT, erA, inB, opt, bnd, req, ret, onQ, ap, ldP, ldE, ldC, ldS, Kd.agg, comps, szL, csize, takeI, takeC, dropC, slF, bd, bds, stapQ, true_and, and_self, Nat.reduceEqDiff, Nat.reduceLT, Nat.reduceLeDiff, Nat.reduceAdd, Nat.reduceSub, Nat.reduceMul, Int.reduceLE, Int.reduceToNat, Nat.le_refl, Nat.add_zero, if_true, if_false, reduceCtorEq, Option.bind_some, Option.map_some, tt_5, tt_22, tt_51]
    refine CallK.pure _ _ c2 call22 (by simp only [Bool.or_true, Bool.or_false, AV.nmIn, lk, opt, bnd, req, ret, onQ, AV.isTup, isTupL, Ent.row, true_and, and_self, Nat.reduceEqDiff, Nat.le_refl, Nat.zero_add, if_true, if_false, forall_const, List.append_nil, vw.vwL, vw, viewR, AV.free, AV.freeL, Ent.row, Bool.or_self]; all_goals (and_intros <;> first | exact AV.subL_refl _ | omega | rfl | (simp [AV.subL_refl]; done) | (simp; exact AV.subL_refl _) | (simp [AV.subL, AV.sub]; done))) ?_
    simp only [exOps_nil, exOps_cons, exOp_eq, nx_eq, cur_eq, stepQ, ev, lk, putT, erA, inB, opt, bnd, req, ret, onQ, ap, up, er, AV.isAgg, Kd.agg, comps, szL, csize, takeI, takeC, dropC, stP, stE, stC, stS, true_and, and_self, Nat.reduceEqDiff, Nat.reduceLT, Nat.reduceLeDiff, Nat.reduceAdd, Nat.reduceSub, Nat.sub_self, Nat.le_refl, Nat.add_zero, Nat.zero_add, if_true, if_false, reduceCtorEq, Option.bind_some, Option.map_some, List.append_nil, List.nil_append, tt_45]
    refine hK _ ?_
    clear hK K
    simp only [hFt]
    refine W.ret ?_
    simp only [fin_ret, finB, resQ, resV, leL, AV.nmIn, AV.nmInL, entsIn, lk, opt, bnd, req, ret, onQ, AV.isTup, ldP, ldE, ldC, ldS, Kd.agg, comps, csize, takeI, takeC, dropC, and_self, Nat.reduceEqDiff, Nat.reduceLT, Nat.reduceLeDiff, Nat.reduceSub, Nat.sub_self, Nat.le_refl, Nat.add_zero, if_true, if_false, reduceCtorEq, Option.bind_some, Option.map_some, tt_45]
end Go.Proofs.YtakgcmponelbeaaDoor
