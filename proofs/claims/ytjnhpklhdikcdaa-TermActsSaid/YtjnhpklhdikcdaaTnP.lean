/- The document's Num, Join and pick. -/
import Derived.Test.YtjnhpklhdikcdaaTnN
-- TT 3 4 5 9 22 24 27 28 30 35 41 47 51 53 54 63 74
-- SIMP beq_self_eq_true
set_option linter.unusedVariables false
set_option linter.unusedSimpArgs false
namespace Go.Proofs.Ytjnhpklhdikcdaa
open Sx
set_option maxRecDepth 100000
set_option maxHeartbeats 2000000
/-- The last bytes of a number. -/
def numT (n : Int) : Nat → List Int
  | 0 => []
  | j + 1 => (n / 256 ^ j % 256) :: numT n j
theorem numT_len (n : Int) : ∀ j, (numT n j).length = j
  | 0 => rfl
  | j + 1 => by rw [numT, List.length_cons, numT_len n j]
theorem div_step (n : Int) (j : Nat) : n / 256 ^ (j + 1) = n / 256 ^ j / 256 := by
  rw [Int.pow_succ, Int.ediv_ediv_of_nonneg (Int.pow_nonneg (by decide))]
theorem nC_div (n : Int) (j : Nat) (hj : j ≤ 7) : nC n (7 - j) = n / 256 ^ j % 256 := by
  rw [nC_eq]
  congr 2
  match j, hj with
  | 0, _ | 1, _ | 2, _ | 3, _ | 4, _ | 5, _ | 6, _ | 7, _ => rfl
theorem numK_nil (n : Int) (hn : 0 ≤ n ∧ n < 18446744073709551616) : ∀ i, i ≤ 8 → (numK n i = [] ↔ n / 256 ^ (8 - i) = 0)
  | 0, _ => by
    simp only [numK, true_iff]
    exact Int.ediv_eq_zero_of_lt hn.1 (by simpa using hn.2)
  | i + 1, hi => by
    have ih := numK_nil n hn i (by omega)
    have e : n / 256 ^ (8 - i) = n / 256 ^ (8 - (i + 1)) / 256 := by
      rw [← div_step]; congr 2; omega
    have e2 : nC n i = n / 256 ^ (8 - (i + 1)) % 256 := by
      have := nC_div n (7 - i) (by omega)
      rw [show 7 - (7 - i) = i by omega] at this
      rw [this]; congr 3; omega
    rw [e] at ih
    rw [numK, e2]
    have hp : 0 ≤ n / 256 ^ (8 - (i + 1)) := Int.ediv_nonneg hn.1 (Int.pow_nonneg (by decide))
    generalize n / 256 ^ (8 - (i + 1)) = m at *
    split
    · next h =>
      constructor
      · intro q; simp at q
      · intro q
        subst q
        rcases h with h | h
        · exact absurd rfl h
        · exact absurd (ih.2 rfl) h
    · next h =>
      simp only [not_or, Classical.not_not] at h
      have := ih.1 h.2
      simp only [true_iff]
      omega
theorem numK_step (n : Int) (hn : 0 ≤ n ∧ n < 18446744073709551616) (j : Nat) (hj : j < 8) (hp : 0 < n / 256 ^ j) : numK n (8 - j) = numK n (8 - (j + 1)) ++ [n / 256 ^ j % 256] := by
  have h1 := numK_nil n hn (8 - j) (by omega)
  rw [show 8 - (8 - j) = j by omega] at h1
  have h2 : numK n (8 - j) ≠ [] := fun q => by rw [h1.1 q] at hp; omega
  have e : 8 - j = (8 - (j + 1)) + 1 := by omega
  rw [e, numK] at h2 ⊢
  split
  · rw [show 8 - (j + 1) = 7 - j by omega, nC_div n j (by omega)]
  · next h => rw [if_neg h] at h2; exact absurd rfl h2
theorem rnum_fn (n : Int) (hn : 0 ≤ n ∧ n < 18446744073709551616) : FnR Try.prog G 26 [.int .u64 n] [] (.str (strOf (numK n 8))) [] := by
  refine FnR.of_walk (m := 16) (n0 := 0) tt_ok Try.func26 rfl rfl (by simp) (by simp [nmH]) ?_
  rw [show Try.f26.results.toList = [.tmp 2] from rfl]
  refine W.seqK fun K hK => W.regionK tt_ok ?_
  simp only [exOps_nil, exOps_cons, exOp_eq, nx_eq, cur_eq, stepQ, ev, ofV, parT, putT, erA, inB, opt, ret, onQ, ap, true_and, Nat.reduceLT, Nat.zero_add, if_false, reduceCtorEq]
  refine hK _ ?_
  clear hK K
  refine W.seqK fun K hK => W.regionK tt_ok ?_
  simp only [exOps_nil, exOps_cons, exOp_eq, nx_eq, cur_eq, stepQ, ev, ofV, putT, erA, inB, opt, ret, onQ, ap, true_and, Nat.reduceEqDiff, Nat.reduceLT, Nat.reduceAdd, if_false, reduceCtorEq]
  refine hK _ ?_
  clear hK K
  refine W.seqK fun Kx hKx => ?_
  refine W.blockK ?_
  refine W.loopK (fun j : Nat => j ≤ 8 ∧ numK n 8 = numK n (8 - j) ++ numT n j) (fun j => ⟨[(0, .int .u64 (n / 256 ^ j)), (3, .str (strOf (numT n j)))], [], 512, 16⟩) (fun j => 8 - j) 0 ⟨by omega, by simp [numT]⟩ (by simp [wk, leL, lk, nmT, nmE, nmH, AV.nmIn, numT, strOf]) ?_
  rintro j ⟨hj, hb⟩ K3 hK3
  have hp0 : 0 ≤ n / 256 ^ j := Int.ediv_nonneg hn.1 (Int.pow_nonneg (by decide))
  by_cases hp : 0 < n / 256 ^ j
  · have hj8 : j < 8 := by
      by_cases q : j = 8
      · subst q
        have := (numK_nil n hn 0 (by omega)).1 rfl
        simp only [Nat.sub_zero] at this
        omega
      · omega
    have hst := numK_step n hn j hj8 hp
    have hdv := div_step n j
    have hT : numT n (j + 1) = [n / 256 ^ j % 256] ++ numT n j := rfl
    have hm : (n / 256 ^ j).tmod 256 = n / 256 ^ j % 256 := Int.tmod_eq_emod_of_nonneg hp0
    have hd : (n / 256 ^ j).tdiv 256 = n / 256 ^ (j + 1) := by rw [hdv, Int.tdiv_eq_ediv_of_nonneg hp0]
    have hle : n / 256 ^ j ≤ n := Int.ediv_le_self _ hn.1
    have hle2 : n / 256 ^ (j + 1) ≤ n := Int.ediv_le_self _ hn.1
    have hp2 : 0 ≤ n / 256 ^ (j + 1) := Int.ediv_nonneg hn.1 (Int.pow_nonneg (by decide))
    have hw : IntKind.u8.wrap (n / 256 ^ j % 256) = n / 256 ^ j % 256 := by rw [IntKind.wrap_u8]; omega
    have hw1 : IntKind.u64.wrap (n / 256 ^ j % 256) = n / 256 ^ j % 256 := by rw [IntKind.wrap_u64]; omega
    have hw2 : IntKind.u64.wrap (n / 256 ^ (j + 1)) = n / 256 ^ (j + 1) := by rw [IntKind.wrap_u64]; omega
    have hso : strOf (numT n (j + 1)) = strOf [n / 256 ^ j % 256] ++ strOf (numT n j) := by rw [hT, strOf_append]
    have hz1 : (strOf (numT n j)).size = j := by rw [strOf_size, numT_len]
    have hz2 : (strOf [n / 256 ^ j % 256]).size = 1 := by rw [strOf_size]; rfl
    generalize hq1 : n / 256 ^ j = m at *
    generalize hq2 : n / 256 ^ (j + 1) = m' at *
    generalize hq3 : m % 256 = d at *
    generalize strOf (numT n j) = s1 at *
    refine W.seqK fun K0 hK0 => ?_
    refine W.seqK fun K hK => W.regionK tt_ok ?_
    simp only [decide_true, exOps_nil, exOps_cons, exOp_eq, nx_eq, cur_eq, stepQ, ev, ofV, lk, putT, erA, inB, opt, bnd, req, ret, onQ, ap, binG, binF, intF, true_and, and_self, Nat.reduceEqDiff, Nat.reduceLT, Nat.reduceAdd, if_true, if_false, reduceCtorEq, hp]
    refine hK _ ?_
    clear hK K
    refine W.cond (b := true) (by simp only [ev, lk, Nat.reduceEqDiff, if_true, if_false, reduceCtorEq]) (fun _ => W.skip ?_) (fun h => absurd h (by simp))
    rw [thn_normal]
    refine hK0 _ ?_
    clear hK0 K0
    refine W.blockK ?_
    refine W.seqK fun K hK => W.regionK tt_ok ?_
    simp only [exOps_nil, exOps_cons, exOp_eq, nx_eq, cur_eq, evP, stepQ, ev, ofV, lk, putT, erA, inB, opt, bnd, req, ret, onQ, ap, up, er, AV.isTup, AV.isAgg, binG, binF, intF, strF, intsOf, Kd.agg, comps, szL, csize, takeI, takeC, dropC, stC, stS, cvQ, s2bQ, srcQ, Row.len, Row.sz, Row.take, Row.drop, Ent.row, bldA, bslQ, zeroCs, cellsRow, and_true, true_and, and_self, and_false, Nat.reduceEqDiff, Nat.reduceLT, Nat.reduceLeDiff, Nat.reduceAdd, Nat.reduceSub, Nat.reduceMul, Nat.sub_self, Nat.le_refl, Nat.add_zero, Nat.zero_add, if_true, if_false, Bool.false_eq_true, reduceCtorEq, ne_eq, not_false_eq_true, forall_const, Option.bind_some, Option.map_some, List.append_nil, List.nil_append, List.cons_append, tt_5, tt_9, tt_28, tt_47, hm, hw, lit1, List.set_cons_zero, List.length_cons, List.length_nil, List.drop_zero, List.take_succ_cons, List.take_zero]
    refine ⟨by omega, by rw [hz2]; omega, ?_⟩
    refine hK _ ?_
    clear hK K
    refine W.region tt_ok ?_
    simp only [exOps_nil, exOps_cons, exOp_eq, nx_eq, cur_eq, stepQ, ev, ofV, lk, putT, erA, inB, opt, bnd, req, ret, onQ, ap, binG, binF, intF, thn_normal, inb_normal, and_true, true_and, Nat.reduceEqDiff, Nat.reduceLT, Nat.reduceAdd, if_true, if_false, reduceCtorEq, ne_eq, hd, hw2]
    refine ⟨by omega, ?_⟩
    refine hK3 _ (j + 1) ⟨by omega, by rw [hb, hst, List.append_assoc, hT]⟩ (by omega) ?_
    simp [hso, hq2, wk, leL, lk, nmT, nmE, nmH, AV.nmIn]
  · have hz : n / 256 ^ j = 0 := by omega
    have h8 := (numK_nil n hn (8 - j) (by omega)).2 (by rw [show 8 - (8 - j) = j by omega]; exact hz)
    rw [h8, List.nil_append] at hb
    refine W.seqK fun K0 hK0 => ?_
    refine W.seqK fun K hK => W.regionK tt_ok ?_
    simp only [decide_false, exOps_nil, exOps_cons, exOp_eq, nx_eq, cur_eq, stepQ, ev, ofV, lk, putT, erA, inB, opt, bnd, req, ret, onQ, ap, binG, binF, intF, true_and, and_self, Nat.reduceEqDiff, Nat.reduceLT, Nat.reduceAdd, if_true, if_false, reduceCtorEq, hp]
    refine hK _ ?_
    clear hK K
    refine W.cond (b := false) (by simp only [ev, lk, Nat.reduceEqDiff, if_true, if_false, reduceCtorEq]) (fun h => absurd h (by simp)) (fun _ => W.exit ?_)
    simp only [thn_normal, thn_exit, inb_exit, if_true]
    clear hK0 K0
    refine hKx _ ?_
    refine W.seqK fun K hK => W.regionK tt_ok ?_
    simp only [exOps_nil, exOps_cons, exOp_eq, nx_eq, cur_eq, stepQ, ev, lk, putT, erA, inB, opt, ret, onQ, ap, true_and, Nat.reduceEqDiff, Nat.reduceLT, Nat.reduceAdd, if_true, if_false, reduceCtorEq]
    refine hK _ ?_
    clear hK K
    refine W.ret ?_
    simp only [fin_ret, finB, resQ, resV, leL, AV.nmIn, entsIn, lk, opt, bnd, req, ret, onQ, AV.isTup, and_true, true_and, and_self, Nat.reduceEqDiff, if_true, if_false, reduceCtorEq]
    rw [hb]
theorem call26 : Callable Try.prog 26 := ⟨_, Try.func26, by kernel_rfl, by kernel_rfl⟩
/-- The document's form of texts, behind k of them. -/
def jR (kind : Int) (ps : List ByteArray) : Nat → ByteArray
  | 0 => strOf [1, kind, IntKind.u8.wrap (ps.length : Int)]
  | k + 1 => jR kind ps k ++ strOf [IntKind.u8.wrap ((ps.getD k ByteArray.empty).size / 256 : Nat), IntKind.u8.wrap ((ps.getD k ByteArray.empty).size % 256 : Nat)] ++ ps.getD k ByteArray.empty
theorem jR_size (kind : Int) (ps : List ByteArray) : ∀ k, (∀ j, j < k → (ps.getD j ByteArray.empty).size ≤ 4000) → (jR kind ps k).size ≤ 3 + k * 4002
  | 0, _ => by rw [jR, strOf_size]; simp
  | k + 1, h => by
    have h1 := jR_size kind ps k (fun j hj => h j (by omega))
    have h2 := h k (by omega)
    rw [jR, ByteArray.size_append, ByteArray.size_append, strOf_size]
    simp only [List.length_cons, List.length_nil]
    omega
theorem rjoin_fn (kind : Int) (ps : List ByteArray) (hl : ps.length ≤ 7) (hok : okP ps) : FnR Try.prog G 35 [.int .u8 kind, .lstS ps] [] (.tup [.str (jR kind ps ps.length), .int .i64 0]) [] := by
  have c1 : ¬ (255 : Int) < ps.length := by omega
  have hgt : ∀ k, k < ps.length → (ps.getD k ByteArray.empty).size ≤ 4000 := fun k hk => hok _ (by rw [List.getD_eq_getElem?_getD, List.getElem?_eq_getElem hk]; exact List.getElem_mem hk)
  refine FnR.of_walkT (m := 50) tt_ok Try.func35 rfl rfl (by simp) ?_
  rw [show Try.f35.results.toList = [.tmp 4, .tmp 5] from rfl]
  refine W.seqK fun K hK => W.regionK tt_ok ?_
  simp only [exOps_nil, exOps_cons, exOp_eq, nx_eq, cur_eq, stepQ, ev, ofV, parT, putT, erA, inB, opt, ret, onQ, ap, true_and, Nat.reduceEqDiff, Nat.reduceLT, Nat.reduceAdd, Nat.zero_add, if_false, reduceCtorEq]
  refine hK _ ?_
  clear hK K
  refine W.seqK fun Kx hKx => ?_
  refine W.seqK fun K hK => W.regionK tt_ok ?_
  simp only [decide_false, exOps_nil, exOps_cons, exOp_eq, exCall_eq, nx_eq, cur_eq, evL, stepQ, ev, ofV, lk, putT, erA, inB, opt, bnd, req, ret, onQ, ap, binG, binF, intF, bltQ, bltV, lenF, true_and, and_self, or_false, Nat.reduceEqDiff, Nat.reduceLT, Nat.reduceAdd, if_true, if_false, reduceCtorEq, List.getElem?_cons_zero, Option.bind_some, Option.map_some, tt_35, c1]
  refine hK _ ?_
  clear hK K
  refine W.cond (b := false) (by simp only [ev, lk, Nat.reduceEqDiff, if_true, if_false, reduceCtorEq]) (fun h => absurd h (by simp)) (fun _ => W.skip ?_)
  simp only [thn_normal]
  refine hKx _ ?_
  refine W.seqK fun K hK => W.regionK tt_ok ?_
  simp only [exOps_nil, exOps_cons, exOp_eq, exCall_eq, nx_eq, cur_eq, evL, evP, stepQ, ev, ofV, lk, putT, erA, inB, opt, bnd, req, ret, onQ, ap, up, er, AV.isTup, AV.isAgg, intsOf, Kd.agg, comps, szL, csize, takeI, takeC, dropC, stC, stS, bltQ, bltV, lenF, cvQ, s2bQ, srcQ, Row.len, Row.sz, Row.take, Row.drop, Ent.row, bldA, bslQ, zeroCs, cellsRow, and_true, true_and, and_self, and_false, or_false, Nat.reduceEqDiff, Nat.reduceLT, Nat.reduceLeDiff, Nat.reduceAdd, Nat.reduceSub, Nat.reduceMul, Nat.sub_self, Nat.le_refl, Nat.add_zero, Nat.zero_add, if_true, if_false, Bool.false_eq_true, reduceCtorEq, ne_eq, not_false_eq_true, forall_const, List.getElem?_cons_zero, Option.bind_some, Option.map_some, List.append_nil, List.nil_append, List.cons_append, tt_3, tt_5, tt_9, tt_35, tt_47, lit3, List.set_cons_zero, List.set_cons_succ, List.length_cons, List.length_nil, List.drop_zero, List.take_succ_cons, List.take_zero]
  repeat (refine ⟨by omega, ?_⟩)
  refine hK _ ?_
  clear hK K
  refine W.seqK fun Ky hKy => ?_
  refine W.seqK fun K hK => W.regionK tt_ok ?_
  simp only [exOps_nil, exOps_cons, exOp_eq, nx_eq, cur_eq, stepQ, ev, ofV, putT, erA, inB, opt, ret, onQ, ap, true_and, Nat.reduceEqDiff, Nat.reduceLT, Nat.reduceAdd, if_false, reduceCtorEq]
  refine hK _ ?_
  clear hK K
  refine W.blockK ?_
  refine W.loopK (fun k : Nat => k ≤ ps.length) (fun k => ⟨[(0, .int .u8 kind), (1, .lstS ps), (6, .str (jR kind ps k)), (7, .int .i64 (k : Int))], [], 512, 50⟩) (fun k => ps.length - k) 0 (by simp) (by simp [wk, leL, lk, nmT, nmE, nmH, AV.nmIn, jR]) ?_
  intro k hk K3 hK3
  by_cases hlt : k < ps.length
  · have hwk : IntKind.i64.wrap ((k : Int) + 1) = ((k + 1 : Nat) : Int) := wrap_up k (by omega)
    have hs4 : ¬ (4000 : Int) < (ps.getD k ByteArray.empty).size := by have := hgt k hlt; omega
    have c2 : (k : Int) < (ps.length : Nat) := by omega
    generalize hgs : ps.getD k ByteArray.empty = s at *
    refine W.seqK fun K0 hK0 => ?_
    refine W.seqK fun K hK => W.regionK tt_ok ?_
    simp only [decide_true, exOps_nil, exOps_cons, exOp_eq, exCall_eq, nx_eq, cur_eq, evL, stepQ, ev, lk, putT, erA, inB, opt, bnd, req, ret, onQ, ap, binG, binF, intF, bltQ, bltV, lenF, true_and, and_self, or_false, Nat.reduceEqDiff, Nat.reduceLT, Nat.reduceAdd, if_true, if_false, reduceCtorEq, List.getElem?_cons_zero, Option.bind_some, Option.map_some, tt_35, c2]
    refine hK _ ?_
    clear hK K
    refine W.cond (b := true) (by simp only [ev, lk, Nat.reduceEqDiff, if_true, if_false, reduceCtorEq]) (fun _ => W.skip ?_) (fun h => absurd h (by simp))
    rw [thn_normal]
    refine hK0 _ ?_
    clear hK0 K0
    refine W.seqK fun K hK => W.blockK ?_
    refine W.seqK fun K hK => W.regionK tt_ok ?_
    simp only [exOps_nil, exOps_cons, exOp_eq, exCall_eq, nx_eq, cur_eq, evL, stepQ, ev, lk, putT, erA, inB, opt, bnd, req, ret, onQ, ap, Kd.elem, ixA, asI, ldP, ldC, ldS, Kd.agg, comps, csize, takeI, takeC, dropC, bltQ, bltV, lenF, and_true, true_and, and_self, or_false, Nat.reduceEqDiff, Nat.reduceLT, Nat.reduceLeDiff, Nat.reduceAdd, Nat.reduceSub, Nat.sub_self, Int.toNat_natCast, Nat.le_refl, if_true, if_false, Bool.false_eq_true, reduceCtorEq, List.getElem?_cons_zero, Option.bind_some, Option.map_some, tt_9, tt_35, hgs, Int.toNat_natCast]
    repeat (refine ⟨by omega, ?_⟩)
    refine hK _ ?_
    clear hK K
    refine W.seqK fun Kz hKz => ?_
    refine W.seqK fun K hK => W.regionK tt_ok ?_
    simp only [decide_false, exOps_nil, exOps_cons, exOp_eq, nx_eq, cur_eq, stepQ, ev, ofV, lk, putT, erA, inB, opt, bnd, req, ret, onQ, ap, binG, binF, intF, true_and, and_self, Nat.reduceEqDiff, Nat.reduceLT, Nat.reduceAdd, if_true, if_false, reduceCtorEq, hs4]
    refine hK _ ?_
    clear hK K
    refine W.cond (b := false) (by simp only [ev, lk, Nat.reduceEqDiff, if_true, if_false, reduceCtorEq]) (fun h => absurd h (by simp)) (fun _ => W.skip ?_)
    simp only [thn_normal]
    refine hKz _ ?_
    have hq : (s.size : Int).tdiv 256 = ((s.size / 256 : Nat) : Int) := by rw [Int.tdiv_eq_ediv_of_nonneg (by omega)]; simp
    have hr : (s.size : Int).tmod 256 = ((s.size % 256 : Nat) : Int) := by rw [Int.tmod_eq_emod_of_nonneg (by omega)]; simp
    have hs5 : s.size ≤ 4000 := by omega
    have hw1 : IntKind.i64.wrap ((s.size / 256 : Nat) : Int) = ((s.size / 256 : Nat) : Int) := by rw [IntKind.wrap_i64]; omega
    have hw2 : IntKind.i64.wrap ((s.size % 256 : Nat) : Int) = ((s.size % 256 : Nat) : Int) := by rw [IntKind.wrap_i64]; omega
    have hjs := jR_size kind ps k (fun j hj => by have := hgt j (by omega); omega)
    have hz2 : ∀ a b : Int, (strOf [a, b]).size = 2 := fun a b => by rw [strOf_size]; rfl
    have hz3 : ∀ a b : Int, (jR kind ps k ++ strOf [a, b]).size = (jR kind ps k).size + 2 := fun a b => by rw [ByteArray.size_append, hz2]
    refine exD_sound (A := [⟨0, false, [], false⟩, ⟨0, false, [], false⟩, ⟨0, false, [1], false⟩, ⟨0, false, [1, 2], false⟩, ⟨0, false, [], false⟩, ⟨0, false, [4], false⟩, ⟨0, false, [4, 5], false⟩, ⟨1, false, [1, 2, 3, 4, 5, 6], false⟩, ⟨0, false, [1, 2, 3, 4, 5, 6, 7], false⟩, ⟨0, false, [0, 1, 2, 3, 4, 5, 6, 7, 8], false⟩, ⟨0, false, [], false⟩, ⟨0, false, [], false⟩, ⟨0, true, [10, 11], false⟩, ⟨0, true, [10, 11, 12], false⟩, ⟨0, false, [0, 1, 2, 3, 4, 5, 6, 7, 8, 9, 10, 11, 12, 13], false⟩, ⟨0, false, [0, 1, 2, 3, 4, 5, 6, 7, 8, 9, 10, 11, 12, 13, 14], false⟩]) mix tt_ok (by kernel_rfl) ?_
    simp only [decide_false, Bool.or_false, List.contains_cons, List.contains_nil, Nat.reduceBEq, exOp_eq, exD_nil, exD_cons, nxD_eq, cur_eq, flI, flE, ownB, ownL, evP, stepQ, ev, ofV, lk, putT, erA, inB, opt, bnd, req, ret, onQ, ap, up, er, AV.isTup, AV.isAgg, binG, binF, intF, strF, intsOf, Kd.elem, ixA, asI, ldP, ldC, ldS, Kd.agg, comps, szL, csize, takeI, takeC, dropC, stC, stS, cvQ, s2bQ, srcQ, Row.len, Row.sz, Row.take, Row.drop, Ent.row, bldA, bslQ, zeroCs, cellsRow, thn_normal, inb_normal, and_true, true_and, and_self, and_false, Nat.reduceEqDiff, Nat.reduceLT, Nat.reduceLeDiff, Nat.reduceAdd, Nat.reduceSub, Nat.reduceMul, Nat.reduceDiv, Nat.sub_self, Int.toNat_natCast, Nat.le_refl, Nat.add_zero, Nat.zero_add, if_true, if_false, Bool.false_eq_true, reduceCtorEq, ne_eq, not_false_eq_true, forall_const, Option.bind_some, Option.map_some, List.append_nil, List.nil_append, List.cons_append, tt_3, tt_5, tt_9, tt_35, tt_47, hq, hr, hw1, hgs, Int.toNat_natCast, lit2, List.set_cons_zero, List.set_cons_succ, List.length_cons, List.length_nil, List.drop_zero, List.take_succ_cons, List.take_zero]
    refine ⟨by omega, by omega, by rw [hz2]; omega, by omega, by rw [hz3]; omega, ?_⟩
    refine hK _ ?_
    refine W.region tt_ok ?_
    simp only [exOps_nil, exOps_cons, exOp_eq, nx_eq, cur_eq, stepQ, ev, ofV, lk, putT, erA, inB, opt, bnd, req, ret, onQ, ap, binG, binF, intF, thn_normal, true_and, and_self, Nat.reduceEqDiff, Nat.reduceLT, Nat.reduceAdd, if_true, if_false, reduceCtorEq, hwk]
    have hj1 : jR kind ps (k + 1) = jR kind ps k ++ strOf [IntKind.u8.wrap ((s.size / 256 : Nat) : Int), IntKind.u8.wrap ((s.size % 256 : Nat) : Int)] ++ s := by rw [jR, hgs]
    refine hK3 _ (k + 1) (by omega) (by omega) ?_
    simp [hj1, wk, leL, lk, nmT, nmE, nmH, AV.nmIn]
  · obtain rfl : k = ps.length := by omega
    have c2 : ¬ ((ps.length : Nat) : Int) < (ps.length : Nat) := by omega
    have hsz := jR_size kind ps ps.length hgt
    have hs3 : ¬ (30000 : Int) < (jR kind ps ps.length).size := by omega
    refine W.seqK fun K0 hK0 => ?_
    refine W.seqK fun K hK => W.regionK tt_ok ?_
    simp only [decide_false, exOps_nil, exOps_cons, exOp_eq, exCall_eq, nx_eq, cur_eq, evL, stepQ, ev, lk, putT, erA, inB, opt, bnd, req, ret, onQ, ap, binG, binF, intF, bltQ, bltV, lenF, true_and, and_self, or_false, Nat.reduceEqDiff, Nat.reduceLT, Nat.reduceAdd, if_true, if_false, reduceCtorEq, List.getElem?_cons_zero, Option.bind_some, Option.map_some, tt_35, c2]
    refine hK _ ?_
    clear hK K
    refine W.cond (b := false) (by simp only [ev, lk, Nat.reduceEqDiff, if_true, if_false, reduceCtorEq]) (fun h => absurd h (by simp)) (fun _ => W.exit ?_)
    simp only [thn_normal, thn_exit, inb_exit, if_true]
    clear hK0 K0
    refine hKy _ ?_
    refine W.seqK fun Kz hKz => ?_
    refine W.seqK fun K hK => W.regionK tt_ok ?_
    simp only [decide_false, exOps_nil, exOps_cons, exOp_eq, exCall_eq, nx_eq, cur_eq, evL, stepQ, ev, ofV, lk, putT, erA, inB, opt, bnd, req, ret, onQ, ap, binG, binF, intF, bltQ, bltV, lenF, true_and, and_self, or_false, Nat.reduceEqDiff, Nat.reduceLT, Nat.reduceAdd, if_true, if_false, reduceCtorEq, List.getElem?_cons_zero, Option.bind_some, Option.map_some, tt_9, hs3]
    refine hK _ ?_
    clear hK K
    refine W.cond (b := false) (by simp only [ev, lk, Nat.reduceEqDiff, if_true, if_false, reduceCtorEq]) (fun h => absurd h (by simp)) (fun _ => W.skip ?_)
    simp only [thn_normal]
    refine hKz _ ?_
    refine W.seqK fun K hK => W.regionK tt_ok ?_
    simp only [exOps_nil, exOps_cons, exOp_eq, nx_eq, cur_eq, stepQ, ev, ofV, lk, putT, erA, inB, opt, ret, onQ, ap, true_and, Nat.reduceEqDiff, Nat.reduceLT, Nat.reduceAdd, if_true, if_false, reduceCtorEq]
    refine hK _ ?_
    clear hK K
    refine W.ret ?_
    simp only [finT_ret, finTB, resQ, lk, opt, bnd, req, ret, onQ, AV.isTup, true_and, and_self, Nat.reduceEqDiff, if_true, if_false, reduceCtorEq, ne_eq]
    simp [vw, vw.vwL, bnd, req, ret, AV.nmIn]
theorem rjoin_bad (kind : Int) (ps : List ByteArray) (hl : ps.length ≤ 7) (i : Nat) (hi : i < ps.length) (hp : ∀ j, j < i → (ps.getD j ByteArray.empty).size ≤ 4000) (hb : 4000 < (ps.getD i ByteArray.empty).size) : FnR Try.prog G 35 [.int .u8 kind, .lstS ps] [] (.tup [.str eS, .int .i64 3]) [] := by
  have c1 : ¬ (255 : Int) < ps.length := by omega
  refine FnR.of_walkT (m := 50) tt_ok Try.func35 rfl rfl (by simp) ?_
  rw [show Try.f35.results.toList = [.tmp 4, .tmp 5] from rfl]
  refine W.seqK fun K hK => W.regionK tt_ok ?_
  simp only [exOps_nil, exOps_cons, exOp_eq, nx_eq, cur_eq, stepQ, ev, ofV, parT, putT, erA, inB, opt, ret, onQ, ap, true_and, Nat.reduceEqDiff, Nat.reduceLT, Nat.reduceAdd, Nat.zero_add, if_false, reduceCtorEq]
  refine hK _ ?_
  clear hK K
  refine W.seqK fun Kx hKx => ?_
  refine W.seqK fun K hK => W.regionK tt_ok ?_
  simp only [decide_false, exOps_nil, exOps_cons, exOp_eq, exCall_eq, nx_eq, cur_eq, evL, stepQ, ev, ofV, lk, putT, erA, inB, opt, bnd, req, ret, onQ, ap, binG, binF, intF, bltQ, bltV, lenF, true_and, and_self, or_false, Nat.reduceEqDiff, Nat.reduceLT, Nat.reduceAdd, if_true, if_false, reduceCtorEq, List.getElem?_cons_zero, Option.bind_some, Option.map_some, tt_35, c1]
  refine hK _ ?_
  clear hK K
  refine W.cond (b := false) (by simp only [ev, lk, Nat.reduceEqDiff, if_true, if_false, reduceCtorEq]) (fun h => absurd h (by simp)) (fun _ => W.skip ?_)
  simp only [thn_normal]
  refine hKx _ ?_
  refine W.seqK fun K hK => W.regionK tt_ok ?_
  simp only [exOps_nil, exOps_cons, exOp_eq, exCall_eq, nx_eq, cur_eq, evL, evP, stepQ, ev, ofV, lk, putT, erA, inB, opt, bnd, req, ret, onQ, ap, up, er, AV.isTup, AV.isAgg, intsOf, Kd.agg, comps, szL, csize, takeI, takeC, dropC, stC, stS, bltQ, bltV, lenF, cvQ, s2bQ, srcQ, Row.len, Row.sz, Row.take, Row.drop, Ent.row, bldA, bslQ, zeroCs, cellsRow, and_true, true_and, and_self, and_false, or_false, Nat.reduceEqDiff, Nat.reduceLT, Nat.reduceLeDiff, Nat.reduceAdd, Nat.reduceSub, Nat.reduceMul, Nat.sub_self, Nat.le_refl, Nat.add_zero, Nat.zero_add, if_true, if_false, Bool.false_eq_true, reduceCtorEq, ne_eq, not_false_eq_true, forall_const, List.getElem?_cons_zero, Option.bind_some, Option.map_some, List.append_nil, List.nil_append, List.cons_append, tt_3, tt_5, tt_9, tt_35, tt_47, lit3, List.set_cons_zero, List.set_cons_succ, List.length_cons, List.length_nil, List.drop_zero, List.take_succ_cons, List.take_zero]
  repeat (refine ⟨by omega, ?_⟩)
  refine hK _ ?_
  clear hK K
  refine W.seqK fun Ky hKy => ?_
  refine W.seqK fun K hK => W.regionK tt_ok ?_
  simp only [exOps_nil, exOps_cons, exOp_eq, nx_eq, cur_eq, stepQ, ev, ofV, putT, erA, inB, opt, ret, onQ, ap, true_and, Nat.reduceEqDiff, Nat.reduceLT, Nat.reduceAdd, if_false, reduceCtorEq]
  refine hK _ ?_
  clear hK K
  refine W.blockK ?_
  refine W.loopK (fun k : Nat => k ≤ i) (fun k => ⟨[(0, .int .u8 kind), (1, .lstS ps), (6, .str (jR kind ps k)), (7, .int .i64 (k : Int))], [], 512, 50⟩) (fun k => ps.length - k) 0 (by simp) (by simp [wk, leL, lk, nmT, nmE, nmH, AV.nmIn, jR]) ?_
  intro k hk K3 hK3
  have hlt : k < ps.length := by omega
  have hwk : IntKind.i64.wrap ((k : Int) + 1) = ((k + 1 : Nat) : Int) := wrap_up k (by omega)
  by_cases hki : k < i
  · have hs4 : ¬ (4000 : Int) < (ps.getD k ByteArray.empty).size := by have := hp k hki; omega
    have hgt : ∀ j, j < k + 1 → (ps.getD j ByteArray.empty).size ≤ 4000 := fun j hj => hp j (by omega)
    have c2 : (k : Int) < (ps.length : Nat) := by omega
    generalize hgs : ps.getD k ByteArray.empty = s at *
    refine W.seqK fun K0 hK0 => ?_
    refine W.seqK fun K hK => W.regionK tt_ok ?_
    simp only [decide_true, exOps_nil, exOps_cons, exOp_eq, exCall_eq, nx_eq, cur_eq, evL, stepQ, ev, lk, putT, erA, inB, opt, bnd, req, ret, onQ, ap, binG, binF, intF, bltQ, bltV, lenF, true_and, and_self, or_false, Nat.reduceEqDiff, Nat.reduceLT, Nat.reduceAdd, if_true, if_false, reduceCtorEq, List.getElem?_cons_zero, Option.bind_some, Option.map_some, tt_35, c2]
    refine hK _ ?_
    clear hK K
    refine W.cond (b := true) (by simp only [ev, lk, Nat.reduceEqDiff, if_true, if_false, reduceCtorEq]) (fun _ => W.skip ?_) (fun h => absurd h (by simp))
    rw [thn_normal]
    refine hK0 _ ?_
    clear hK0 K0
    refine W.seqK fun K hK => W.blockK ?_
    refine W.seqK fun K hK => W.regionK tt_ok ?_
    simp only [exOps_nil, exOps_cons, exOp_eq, exCall_eq, nx_eq, cur_eq, evL, stepQ, ev, lk, putT, erA, inB, opt, bnd, req, ret, onQ, ap, Kd.elem, ixA, asI, ldP, ldC, ldS, Kd.agg, comps, csize, takeI, takeC, dropC, bltQ, bltV, lenF, and_true, true_and, and_self, or_false, Nat.reduceEqDiff, Nat.reduceLT, Nat.reduceLeDiff, Nat.reduceAdd, Nat.reduceSub, Nat.sub_self, Int.toNat_natCast, Nat.le_refl, if_true, if_false, Bool.false_eq_true, reduceCtorEq, List.getElem?_cons_zero, Option.bind_some, Option.map_some, tt_9, tt_35, hgs, Int.toNat_natCast]
    repeat (refine ⟨by omega, ?_⟩)
    refine hK _ ?_
    clear hK K
    refine W.seqK fun Kz hKz => ?_
    refine W.seqK fun K hK => W.regionK tt_ok ?_
    simp only [decide_false, exOps_nil, exOps_cons, exOp_eq, nx_eq, cur_eq, stepQ, ev, ofV, lk, putT, erA, inB, opt, bnd, req, ret, onQ, ap, binG, binF, intF, true_and, and_self, Nat.reduceEqDiff, Nat.reduceLT, Nat.reduceAdd, if_true, if_false, reduceCtorEq, hs4]
    refine hK _ ?_
    clear hK K
    refine W.cond (b := false) (by simp only [ev, lk, Nat.reduceEqDiff, if_true, if_false, reduceCtorEq]) (fun h => absurd h (by simp)) (fun _ => W.skip ?_)
    simp only [thn_normal]
    refine hKz _ ?_
    have hq : (s.size : Int).tdiv 256 = ((s.size / 256 : Nat) : Int) := by rw [Int.tdiv_eq_ediv_of_nonneg (by omega)]; simp
    have hr : (s.size : Int).tmod 256 = ((s.size % 256 : Nat) : Int) := by rw [Int.tmod_eq_emod_of_nonneg (by omega)]; simp
    have hs5 : s.size ≤ 4000 := by omega
    have hw1 : IntKind.i64.wrap ((s.size / 256 : Nat) : Int) = ((s.size / 256 : Nat) : Int) := by rw [IntKind.wrap_i64]; omega
    have hw2 : IntKind.i64.wrap ((s.size % 256 : Nat) : Int) = ((s.size % 256 : Nat) : Int) := by rw [IntKind.wrap_i64]; omega
    have hjs := jR_size kind ps k (fun j hj => by have := hgt j (by omega); omega)
    have hz2 : ∀ a b : Int, (strOf [a, b]).size = 2 := fun a b => by rw [strOf_size]; rfl
    have hz3 : ∀ a b : Int, (jR kind ps k ++ strOf [a, b]).size = (jR kind ps k).size + 2 := fun a b => by rw [ByteArray.size_append, hz2]
    refine exD_sound (A := [⟨0, false, [], false⟩, ⟨0, false, [], false⟩, ⟨0, false, [1], false⟩, ⟨0, false, [1, 2], false⟩, ⟨0, false, [], false⟩, ⟨0, false, [4], false⟩, ⟨0, false, [4, 5], false⟩, ⟨1, false, [1, 2, 3, 4, 5, 6], false⟩, ⟨0, false, [1, 2, 3, 4, 5, 6, 7], false⟩, ⟨0, false, [0, 1, 2, 3, 4, 5, 6, 7, 8], false⟩, ⟨0, false, [], false⟩, ⟨0, false, [], false⟩, ⟨0, true, [10, 11], false⟩, ⟨0, true, [10, 11, 12], false⟩, ⟨0, false, [0, 1, 2, 3, 4, 5, 6, 7, 8, 9, 10, 11, 12, 13], false⟩, ⟨0, false, [0, 1, 2, 3, 4, 5, 6, 7, 8, 9, 10, 11, 12, 13, 14], false⟩]) mix tt_ok (by kernel_rfl) ?_
    simp only [decide_false, Bool.or_false, List.contains_cons, List.contains_nil, Nat.reduceBEq, exOp_eq, exD_nil, exD_cons, nxD_eq, cur_eq, flI, flE, ownB, ownL, evP, stepQ, ev, ofV, lk, putT, erA, inB, opt, bnd, req, ret, onQ, ap, up, er, AV.isTup, AV.isAgg, binG, binF, intF, strF, intsOf, Kd.elem, ixA, asI, ldP, ldC, ldS, Kd.agg, comps, szL, csize, takeI, takeC, dropC, stC, stS, cvQ, s2bQ, srcQ, Row.len, Row.sz, Row.take, Row.drop, Ent.row, bldA, bslQ, zeroCs, cellsRow, thn_normal, inb_normal, and_true, true_and, and_self, and_false, Nat.reduceEqDiff, Nat.reduceLT, Nat.reduceLeDiff, Nat.reduceAdd, Nat.reduceSub, Nat.reduceMul, Nat.reduceDiv, Nat.sub_self, Int.toNat_natCast, Nat.le_refl, Nat.add_zero, Nat.zero_add, if_true, if_false, Bool.false_eq_true, reduceCtorEq, ne_eq, not_false_eq_true, forall_const, Option.bind_some, Option.map_some, List.append_nil, List.nil_append, List.cons_append, tt_3, tt_5, tt_9, tt_35, tt_47, hq, hr, hw1, hgs, Int.toNat_natCast, lit2, List.set_cons_zero, List.set_cons_succ, List.length_cons, List.length_nil, List.drop_zero, List.take_succ_cons, List.take_zero]
    refine ⟨by omega, by omega, by rw [hz2]; omega, by omega, by rw [hz3]; omega, ?_⟩
    refine hK _ ?_
    refine W.region tt_ok ?_
    simp only [exOps_nil, exOps_cons, exOp_eq, nx_eq, cur_eq, stepQ, ev, ofV, lk, putT, erA, inB, opt, bnd, req, ret, onQ, ap, binG, binF, intF, thn_normal, true_and, and_self, Nat.reduceEqDiff, Nat.reduceLT, Nat.reduceAdd, if_true, if_false, reduceCtorEq, hwk]
    have hj1 : jR kind ps (k + 1) = jR kind ps k ++ strOf [IntKind.u8.wrap ((s.size / 256 : Nat) : Int), IntKind.u8.wrap ((s.size % 256 : Nat) : Int)] ++ s := by rw [jR, hgs]
    refine hK3 _ (k + 1) (by omega) (by omega) ?_
    simp [hj1, wk, leL, lk, nmT, nmE, nmH, AV.nmIn]
  · obtain rfl : k = i := by omega
    have hs4 : (4000 : Int) < (ps.getD k ByteArray.empty).size := by omega
    have c2 : (k : Int) < (ps.length : Nat) := by omega
    generalize hgs : ps.getD k ByteArray.empty = s at *
    refine W.seqK fun K0 hK0 => ?_
    refine W.seqK fun K hK => W.regionK tt_ok ?_
    simp only [decide_true, exOps_nil, exOps_cons, exOp_eq, exCall_eq, nx_eq, cur_eq, evL, stepQ, ev, lk, putT, erA, inB, opt, bnd, req, ret, onQ, ap, binG, binF, intF, bltQ, bltV, lenF, true_and, and_self, or_false, Nat.reduceEqDiff, Nat.reduceLT, Nat.reduceAdd, if_true, if_false, reduceCtorEq, List.getElem?_cons_zero, Option.bind_some, Option.map_some, tt_35, c2]
    refine hK _ ?_
    clear hK K
    refine W.cond (b := true) (by simp only [ev, lk, Nat.reduceEqDiff, if_true, if_false, reduceCtorEq]) (fun _ => W.skip ?_) (fun h => absurd h (by simp))
    rw [thn_normal]
    refine hK0 _ ?_
    clear hK0 K0
    refine W.seqK fun K hK => W.blockK ?_
    refine W.seqK fun K hK => W.regionK tt_ok ?_
    simp only [exOps_nil, exOps_cons, exOp_eq, exCall_eq, nx_eq, cur_eq, evL, stepQ, ev, lk, putT, erA, inB, opt, bnd, req, ret, onQ, ap, Kd.elem, ixA, asI, ldP, ldC, ldS, Kd.agg, comps, csize, takeI, takeC, dropC, bltQ, bltV, lenF, and_true, true_and, and_self, or_false, Nat.reduceEqDiff, Nat.reduceLT, Nat.reduceLeDiff, Nat.reduceAdd, Nat.reduceSub, Nat.sub_self, Int.toNat_natCast, Nat.le_refl, if_true, if_false, Bool.false_eq_true, reduceCtorEq, List.getElem?_cons_zero, Option.bind_some, Option.map_some, tt_9, tt_35, hgs, Int.toNat_natCast]
    repeat (refine ⟨by omega, ?_⟩)
    refine hK _ ?_
    clear hK K
    refine W.seqK fun Kz hKz => ?_
    refine W.seqK fun K hK => W.regionK tt_ok ?_
    simp only [decide_true, exOps_nil, exOps_cons, exOp_eq, nx_eq, cur_eq, stepQ, ev, ofV, lk, putT, erA, inB, opt, bnd, req, ret, onQ, ap, binG, binF, intF, true_and, and_self, Nat.reduceEqDiff, Nat.reduceLT, Nat.reduceAdd, if_true, if_false, reduceCtorEq, hs4]
    refine hK _ ?_
    clear hK K
    refine W.cond (b := true) (by simp only [ev, lk, Nat.reduceEqDiff, if_true, if_false, reduceCtorEq]) (fun _ => ?_) (fun h => absurd h (by simp))
    refine W.seqK fun K hK => W.regionK tt_ok ?_
    simp only [exOps_nil, exOps_cons, exOp_eq, nx_eq, cur_eq, stepQ, ev, ofV, putT, erA, inB, opt, ret, onQ, ap, true_and, Nat.reduceEqDiff, Nat.reduceLT, Nat.reduceAdd, if_false, reduceCtorEq]
    refine hK _ ?_
    clear hK K
    refine W.ret ?_
    simp only [finT_ret, finTB, resQ, lk, opt, bnd, req, ret, onQ, AV.isTup, thn_ret, inb_ret, true_and, and_self, Nat.reduceEqDiff, if_true, if_false, reduceCtorEq, ne_eq]
    simp [vw, vw.vwL, bnd, req, ret, AV.nmIn, eS]
theorem call35 : Callable Try.prog 35 := ⟨_, Try.func35, by kernel_rfl, by kernel_rfl⟩
end Go.Proofs.Ytjnhpklhdikcdaa
