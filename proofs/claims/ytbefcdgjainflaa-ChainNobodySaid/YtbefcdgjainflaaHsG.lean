/- Digests of bytes: Write and Sum, told by the bytes. -/
import Derived.Test.YtbefcdgjainflaaHsF
-- TT 3 5 39 36 66 93 94 96
set_option linter.unusedVariables false
set_option linter.unusedSectionVars false
set_option linter.unusedSimpArgs false
namespace Go.Proofs.Ytbefcdgjainflaa
open Sx
variable [Inhabited Tabs]
set_option maxRecDepth 100000
set_option maxHeartbeats 2000000
theorem getD_set_self {xs : List Int} {k : Nat} (h : k < xs.length) (v : Int) : (xs.set k v).getD k 0 = v := by
  simp [List.getD_eq_getElem?_getD, h]
theorem getD_set_ne {xs : List Int} {k i : Nat} (h : k ≠ i) (v : Int) : (xs.set k v).getD i 0 = xs.getD i 0 := by
  simp [List.getD_eq_getElem?_getD, List.getElem?_set_ne h]
theorem ext_getD {l l' : List Int} (h : l.length = l'.length) (he : ∀ i, i < l.length → l.getD i 0 = l'.getD i 0) : l = l' := by
  apply List.ext_getElem h
  intro i h1 h2
  have := he i h1
  simpa [List.getD_eq_getElem?_getD, h1, h2] using this
def Rg (s : List Int) : Prop := ∀ i, 0 ≤ s.getD i 0 ∧ s.getD i 0 < 4294967296
theorem wr32 (x : Int) : 0 ≤ IntKind.u32.wrap x ∧ IntKind.u32.wrap x < 4294967296 := by rw [IntKind.wrap_u32]; omega
theorem Rg.set {s : List Int} (h : Rg s) (k : Nat) (x : Int) : Rg (s.set k (IntKind.u32.wrap x)) := fun i => by
  by_cases hi : k = i
  · subst hi
    by_cases hl : k < s.length
    · rw [getD_set_self hl]; exact wr32 x
    · rw [List.set_eq_of_length_le (by omega)]; exact h k
  · rw [getD_set_ne hi]; exact h i
theorem adN_get (s x : List Int) : ∀ n, n ≤ s.length → (∀ i, i < n → (adN s x n).getD i 0 = IntKind.u32.wrap (s.getD i 0 + x.getD i 0)) ∧ (∀ i, n ≤ i → (adN s x n).getD i 0 = s.getD i 0) ∧ (adN s x n).length = s.length
  | 0, _ => ⟨fun i h => by omega, fun i _ => rfl, rfl⟩
  | n + 1, hn => by
    obtain ⟨h1, h2, h3⟩ := adN_get s x n (by omega)
    refine ⟨fun i hi => ?_, fun i hi => ?_, by simp [adN, h3]⟩
    · rw [adN]
      by_cases hin : i = n
      · subst hin; rw [getD_set_self (by omega), h2 i (Nat.le_refl _)]
      · rw [getD_set_ne (fun e => hin e.symm)]; exact h1 i (by omega)
    · rw [adN, getD_set_ne (by omega)]; exact h2 i (by omega)
theorem suN_get (s x : List Int) : ∀ n, n ≤ s.length → (∀ i, i < n → (suN s x n).getD i 0 = IntKind.u32.wrap (s.getD i 0 - x.getD i 0)) ∧ (∀ i, n ≤ i → (suN s x n).getD i 0 = s.getD i 0) ∧ (suN s x n).length = s.length
  | 0, _ => ⟨fun i h => by omega, fun i _ => rfl, rfl⟩
  | n + 1, hn => by
    obtain ⟨h1, h2, h3⟩ := suN_get s x n (by omega)
    refine ⟨fun i hi => ?_, fun i hi => ?_, by simp [suN, h3]⟩
    · rw [suN]
      by_cases hin : i = n
      · subst hin; rw [getD_set_self (by omega), h2 i (Nat.le_refl _)]
      · rw [getD_set_ne (fun e => hin e.symm)]; exact h1 i (by omega)
    · rw [suN, getD_set_ne (by omega)]; exact h2 i (by omega)
theorem ad_su {s x : List Int} (hs : s.length = 8) (h : Rg s) : adN (suN s x 8) x 8 = s := by
  obtain ⟨h1, _, h3⟩ := suN_get s x 8 (by omega)
  obtain ⟨g1, _, g3⟩ := adN_get (suN s x 8) x 8 (by omega)
  refine ext_getD (by omega) (fun i hi => ?_)
  rw [g1 i (by omega), h1 i (by omega), IntKind.wrap_u32, IntKind.wrap_u32]
  have := h i
  omega
theorem adN_rg {s x : List Int} (h : Rg s) : ∀ n, Rg (adN s x n)
  | 0 => h
  | n + 1 => (adN_rg h n).set _ _
theorem blN_rg {s : List Int} (h : Rg s) (all : List Int) : ∀ k, Rg (blN s all k)
  | 0 => h
  | k + 1 => adN_rg (blN_rg h all k) 8
theorem startL_rg : Rg startL := fun i => by
  by_cases hi : i < 8
  · have hl : i < startL.length := by rw [startL_len]; exact hi
    have h := (default : Tabs).st_rg _ (List.getElem_mem (l := startL) hl)
    rw [List.getD_eq_getElem?_getD, List.getElem?_eq_getElem hl]
    exact h
  · rw [List.getD_eq_getElem?_getD, List.getElem?_eq_none (by rw [startL_len]; omega)]; simp
def zst : List Int := List.replicate 8 0
theorem su_same (L : List Int) (h : L.length = 8) : suN L L 8 = zst := by
  match L, h with
  | [a, b, c, d, e, f, g, k], _ => simp [suN, zst, List.replicate, IntKind.wrap_u32]
/-- What is left of bytes, behind whole blocks. -/
def R (bs : List Int) : List Int := bs.drop (64 * (bs.length / 64))
/-- The state behind bytes, and as it is kept. -/
def B (bs : List Int) : List Int := blN startL bs (bs.length / 64)
def S (bs : List Int) : List Int := suN (B bs) startL 8
theorem B_len (bs : List Int) : (B bs).length = 8 := blN_len _ _ startL_len _
theorem S_len (bs : List Int) : (S bs).length = 8 := suN_len _ _ (B_len bs) 8
theorem R_len (bs : List Int) : (R bs).length = bs.length % 64 := by rw [R, List.length_drop]; omega
theorem S_nil : S [] = zst := su_same startL startL_len
theorem ad_zero : adN zst startL 8 = startL := by
  rw [← su_same startL startL_len]
  exact ad_su startL_len startL_rg
theorem blN_app (s bs c : List Int) : ∀ k, blN s (bs ++ c) ((bs.length / 64) + k) = blN (blN s bs (bs.length / 64)) (R bs ++ c) k
  | 0 => by
    have : ∀ k, k ≤ bs.length / 64 → blN s (bs ++ c) k = blN s bs k := by
      intro k
      induction k with
      | zero => intro _; rfl
      | succ k ih =>
        intro hk
        have e : ((bs ++ c).drop (64 * k)).take 64 = (bs.drop (64 * k)).take 64 := by
          rw [List.drop_append_of_le_length (by omega), List.take_append_of_le_length (by rw [List.length_drop]; omega)]
        rw [blN, blN, ih (by omega), e]
    rw [Nat.add_zero, this _ (Nat.le_refl _)]; rfl
  | k + 1 => by
    have e : (bs ++ c).drop (64 * (bs.length / 64 + k)) = (R bs ++ c).drop (64 * k) := by
      rw [R, Nat.mul_add, ← List.drop_drop, List.drop_append_of_le_length (by omega)]
    rw [← Nat.add_assoc, blN, blN, blN_app s bs c k, e]
theorem wrS_app (bs c : List Int) : wrS (S bs) (R bs ++ c) = S (bs ++ c) := by
  have h1 : adN (S bs) startL 8 = B bs := ad_su (B_len bs) (blN_rg startL_rg _ _)
  have h2 : (bs ++ c).length / 64 = bs.length / 64 + (R bs ++ c).length / 64 := by
    rw [List.length_append, List.length_append, R_len]; omega
  rw [wrS, h1, S, B, B, h2, blN_app]
theorem R_app (bs c : List Int) : ((R bs ++ c).drop (64 * ((R bs ++ c).length / 64))).take ((R bs ++ c).length - 64 * ((R bs ++ c).length / 64)) = R (bs ++ c) := by
  have h2 : (bs ++ c).length / 64 = bs.length / 64 + (R bs ++ c).length / 64 := by
    rw [List.length_append, List.length_append, R_len]; omega
  rw [List.take_of_length_le (by rw [List.length_drop]; omega)]
  have e : (bs ++ c).drop (64 * (bs.length / 64)) = R bs ++ c := by rw [List.drop_append_of_le_length (by omega)]; rfl
  show _ = (bs ++ c).drop (64 * ((bs ++ c).length / 64))
  rw [h2, Nat.mul_add, ← List.drop_drop, e]
/-- The digest of bytes. -/
def dig (bs : List Int) : List Int := digN (S bs) (R bs) (bs.length : Int)
theorem dig_len (bs : List Int) : (dig bs).length = 32 := by unfold dig digN; exact outS_len _ 8
theorem sumB_fn (bs : List Int) : FnR Try.prog G 52 [.agg [.ints .u32 8 (S bs), .lstI .u8 (R bs), .int .u64 (bs.length : Int)]] [] (.agg [.ints .u8 32 (dig bs)]) [] :=
  sumD_fn (S bs) (R bs) bs.length (S_len bs) (by rw [R_len]; omega)
theorem writeB_at (X : Nat) (bs c : List Int) (hb : bs.length ≤ 90000) (hc : c.length ≤ 90000) (h0 : R bs ++ c ≠ []) :
    FnR Try.prog G 51 [.agg [.ints .u32 8 (S bs), .lstI .u8 (R bs), .int .u64 (bs.length : Int)], .lstI .u8 c] []
      (.agg [.ints .u32 8 (S (bs ++ c)), .sl X 1 (64 * ((R bs ++ c).length / 64)) ((R bs ++ c).length - 64 * ((R bs ++ c).length / 64)), .int .u64 ((bs ++ c).length : Int)]) [(X, .vec 5 (.ints .u8 (R bs ++ c)))] := by
  have hr := R_len bs
  have hpos : 0 < (R bs).length + c.length := by
    rcases Nat.eq_zero_or_pos ((R bs).length + c.length) with h | h
    · exact absurd (List.length_eq_zero_iff.1 (by rw [List.length_append]; exact h)) h0
    · exact h
  have h := write_at X (S bs) (R bs) c bs.length (S_len bs) (by omega) hc hpos
  have hn : IntKind.u64.wrap ((bs.length : Int) + IntKind.u64.wrap (c.length : Int)) = ((bs ++ c).length : Int) := by
    rw [List.length_append, IntKind.wrap_u64, IntKind.wrap_u64]; omega
  rw [wrS_app, hn] at h
  exact h
theorem writeB_nil (bs : List Int) (hb : bs.length ≤ 90000) (h0 : R bs = []) :
    FnR Try.prog G 51 [.agg [.ints .u32 8 (S bs), .lstI .u8 [], .int .u64 (bs.length : Int)], .lstI .u8 []] []
      (.agg [.ints .u32 8 (S bs), .nils, .int .u64 (bs.length : Int)]) [] := by
  have h := write_nil (S bs) bs.length (S_len bs)
  have hn : IntKind.u64.wrap ((bs.length : Int) + IntKind.u64.wrap 0) = (bs.length : Int) := by
    rw [IntKind.wrap_u64, IntKind.wrap_u64]; omega
  have hw := wrS_app bs []
  rw [h0, List.nil_append, List.append_nil] at hw
  rw [hw, hn] at h
  exact h
theorem call52 : Callable Try.prog 52 := ⟨_, Try.func52, by kernel_rfl, by kernel_rfl⟩
/-- The row behind bytes that are told by their row. -/
theorem R_eq (c : List Int) : (c.drop (64 * (c.length / 64))).take (c.length - 64 * (c.length / 64)) = R c := by
  rw [List.take_of_length_le (by rw [List.length_drop]; omega)]; rfl
theorem writeZ_at (X : Nat) (c : List Int) (hc : c.length ≤ 90000) (h0 : c ≠ []) :
    FnR Try.prog G 51 [.agg [.ints .u32 8 zst, .lstI .u8 [], .int .u64 0], .lstI .u8 c] []
      (.agg [.ints .u32 8 (S c), .sl X 1 (64 * (c.length / 64)) (c.length - 64 * (c.length / 64)), .int .u64 (c.length : Int)]) [(X, .vec 5 (.ints .u8 c))] := by
  have h := writeB_at X [] c (by simp) hc (by simpa [R] using h0)
  rw [S_nil] at h
  exact h
theorem writeZ_nil : FnR Try.prog G 51 [.agg [.ints .u32 8 zst, .lstI .u8 [], .int .u64 0], .lstI .u8 []] [] (.agg [.ints .u32 8 (S []), .nils, .int .u64 0]) [] := by
  have h := writeB_nil [] (by simp) rfl
  rw [S_nil] at h ⊢
  exact h
theorem sumZ_fn : FnR Try.prog G 52 [.agg [.ints .u32 8 (S []), .lstI .u8 [], .int .u64 0]] [] (.agg [.ints .u8 32 (dig [])]) [] := sumB_fn []
theorem sum_fn (b : List Int) (hb : b.length ≤ 90000) : FnR Try.prog G 54 [.lstI .u8 b] [] (.agg [.ints .u8 32 (dig b)]) [] := by
  have hz : (List.replicate 8 (0 : Int)) = zst := rfl
  have hdl := dig_len b
  refine FnR.of_walk (m := 7) (n0 := 0) tt_ok Try.func54 rfl rfl (by simp) (by simp [nmH]) ?_
  rw [show Try.f54.results.toList = [.cell 2 36] from rfl]
  refine W.seqK fun K hK => W.regionK tt_ok ?_
  simp only [exOps_nil, exOps_cons, exOp_eq, nx_eq, cur_eq, stepQ, parT, putT, erA, inB, opt, ret, onQ, ap, up, er, true_and, Nat.reduceLT, Nat.zero_add, if_false, reduceCtorEq, tt_36]
  refine hK _ ?_
  clear hK K
  by_cases h0 : b = []
  · subst h0
    have cs := sumZ_fn
    have cw := writeZ_nil
    generalize dig [] = D at *
    generalize S [] = S0 at *
    refine W.seqK fun K hK => W.regionK tt_ok ?_
    simp only [exOps_cons, exOp_eq, exCall_eq, nx_eq, cur_eq, evL, evP, stepQ, ev, lk, putT, erA, inB, opt, bnd, req, ret, onQ, ap, comps, bldF, bldS, and_true, true_and, and_self, Nat.reduceEqDiff, Nat.reduceLT, Nat.reduceAdd, if_true, if_false, reduceCtorEq, Option.bind_some, Option.map_some, tt_96]
    rw [hz]
    generalize zst = Z at *
    refine ⟨by simp [tt_39, tt_93, tt_94], ?_⟩
    refine CallK.pure _ _ cw call51 (by simp only [AV.nmIn, bnd, req, ret, onQ, AV.isTup, isTupL, true_and, and_self, Bool.false_eq_true, List.append_nil, vw.vwL, vw, AV.free, AV.freeL, Bool.or_self]; all_goals (and_intros <;> first | exact AV.subL_refl _ | omega | (simp [AV.sub]; done) | rfl | (simp [AV.subL_refl]; done) | (simp; exact AV.subL_refl _))) ?_
    simp only [exOps_cons, exOp_eq, exCall_eq, nx_eq, evL, ev, lk, putT, erA, inB, ap, true_and, Nat.reduceEqDiff, Nat.reduceLT, Nat.reduceAdd, if_true, if_false, reduceCtorEq, Option.bind_some, Option.map_some]
    refine CallK.pure _ _ cs call52 (by simp only [AV.nmIn, bnd, req, ret, onQ, AV.isTup, isTupL, true_and, and_self, Bool.false_eq_true, List.append_nil, vw.vwL, vw, AV.free, AV.freeL, Bool.or_self]; all_goals (and_intros <;> first | exact AV.subL_refl _ | omega | (simp [AV.sub]; done) | rfl | (simp [AV.subL_refl]; done) | (simp; exact AV.subL_refl _))) ?_
    simp only [exOps_nil, exOps_cons, exOp_eq, nx_eq, cur_eq, stepQ, ev, lk, putT, erA, inB, opt, bnd, req, ret, onQ, ap, up, er, AV.isAgg, Kd.agg, comps, szL, csize, takeI, takeC, dropC, stP, stE, stC, stS, true_and, and_self, Nat.reduceEqDiff, Nat.reduceLT, Nat.reduceLeDiff, Nat.reduceAdd, Nat.reduceSub, Nat.sub_self, Nat.le_refl, Nat.add_zero, Nat.zero_add, if_true, if_false, reduceCtorEq, Option.bind_some, Option.map_some, List.append_nil, List.nil_append, tt_36]
    repeat (refine ⟨by omega, ?_⟩)
    refine hK _ ?_
    clear hK K
    refine W.ret ?_
    simp only [fin_ret, finB, resQ, resV, leL, AV.nmIn, AV.nmInL, entsIn, lk, opt, bnd, req, ret, onQ, AV.isTup, ldP, ldE, ldC, ldS, Kd.agg, comps, csize, takeI, takeC, dropC, and_self, Nat.reduceEqDiff, Nat.reduceLT, Nat.reduceLeDiff, Nat.reduceSub, Nat.sub_self, Nat.le_refl, Nat.add_zero, if_true, if_false, reduceCtorEq, Option.bind_some, Option.map_some, tt_36]
  · have cw := writeZ_at 48 b hb h0
    have cs := sumB_fn b
    rw [← R_eq] at cs
    generalize dig b = D at *
    generalize S b = SB at *
    refine W.seqK fun K hK => W.regionK tt_ok ?_
    simp only [exOps_cons, exOp_eq, exCall_eq, nx_eq, cur_eq, evL, evP, stepQ, ev, lk, putT, erA, inB, opt, bnd, req, ret, onQ, ap, comps, bldF, bldS, and_true, true_and, and_self, Nat.reduceEqDiff, Nat.reduceLT, Nat.reduceAdd, if_true, if_false, reduceCtorEq, Option.bind_some, Option.map_some, tt_96]
    rw [hz]
    generalize zst = Z at *
    refine ⟨by simp [tt_39, tt_93, tt_94], ?_⟩
    refine CallK.with [] [(48, .vec 5 (.ints .u8 b))] _ _ cw call51 (by simp only [AV.nmIn, bnd, req, ret, onQ, AV.isTup, isTupL, true_and, and_self, Bool.false_eq_true, List.append_nil, vw.vwL, vw, AV.free, AV.freeL, Bool.or_self]; all_goals (and_intros <;> first | exact AV.subL_refl _ | omega | (simp [AV.sub, entsFree, Ent.free, Row.free]; done) | rfl | (simp [AV.subL_refl]; done))) (by simp [leL]) (by intro n hn; first | (left; revert hn; simp [Nm, lk]; done) | (right; revert hn; simp only [Nm, lk]; split <;> simp <;> omega) | (by_cases h1 : Nm [] n; exact .inl h1; right; revert hn h1; simp only [Nm, lk]; split <;> (try split) <;> (try split) <;> (try split) <;> (try simp) <;> (try omega))) (by simp [entsIn]) ?_
    simp only [callDel, exOps_cons, exOp_eq, exCall_eq, nx_eq, evL, ev, lk, putT, erA, inB, ap, up, er, true_and, Nat.reduceEqDiff, Nat.reduceLT, Nat.reduceAdd, if_true, if_false, reduceCtorEq, Option.bind_some, Option.map_some, List.nil_append, List.map_cons, List.map_nil, List.reverse_cons, List.reverse_nil]
    refine CallK.pure _ _ cs call52 (by simp only [Bool.or_true, Bool.or_false, AV.nmIn, lk, opt, bnd, req, ret, onQ, AV.isTup, isTupL, Ent.row, and_true, true_and, and_self, if_true, if_false, reduceCtorEq, forall_const, List.append_nil, vw.vwL, vw, viewR, AV.free, AV.freeL, Ent.row, Bool.or_self]; all_goals (and_intros <;> first | exact AV.subL_refl _ | omega | (simp [AV.sub]; done) | rfl | (simp [AV.subL_refl]; done) | (simp; exact AV.subL_refl _))) ?_
    simp only [exOps_nil, exOps_cons, exOp_eq, nx_eq, cur_eq, stepQ, ev, lk, putT, erA, inB, opt, bnd, req, ret, onQ, ap, up, er, AV.isAgg, Kd.agg, comps, szL, csize, takeI, takeC, dropC, stP, stE, stC, stS, true_and, and_self, Nat.reduceEqDiff, Nat.reduceLT, Nat.reduceLeDiff, Nat.reduceAdd, Nat.reduceSub, Nat.sub_self, Nat.le_refl, Nat.add_zero, Nat.zero_add, if_true, if_false, reduceCtorEq, Option.bind_some, Option.map_some, List.append_nil, List.nil_append, tt_36]
    repeat (refine ⟨by omega, ?_⟩)
    refine hK _ ?_
    clear hK K
    refine W.ret ?_
    simp only [fin_ret, finB, resQ, resV, leL, AV.nmIn, AV.nmInL, entsIn, lk, opt, bnd, req, ret, onQ, AV.isTup, ldP, ldE, ldC, ldS, Kd.agg, comps, csize, takeI, takeC, dropC, and_self, Nat.reduceEqDiff, Nat.reduceLT, Nat.reduceLeDiff, Nat.reduceSub, Nat.sub_self, Nat.le_refl, Nat.add_zero, if_true, if_false, reduceCtorEq, Option.bind_some, Option.map_some, tt_36]
end Go.Proofs.Ytbefcdgjainflaa
