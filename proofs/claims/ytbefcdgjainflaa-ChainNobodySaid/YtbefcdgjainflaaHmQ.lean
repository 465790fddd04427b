/- Tables: put, by one contract for each shape. -/
import Derived.Test.YtbefcdgjainflaaHmP
-- TT 3 4 5 9 50 94 29 39 56 58 30
set_option linter.unusedVariables false
set_option linter.unusedSectionVars false
set_option linter.unusedSimpArgs false
namespace Go.Proofs.Ytbefcdgjainflaa
open Sx
variable [Inhabited Tabs]
set_option maxRecDepth 100000
set_option maxHeartbeats 2000000
def okP (ps : List ByteArray) : Prop := ∀ s ∈ ps, s.size ≤ 4000
instance (ps : List ByteArray) : Decidable (okP ps) := inferInstanceAs (Decidable (∀ s ∈ ps, s.size ≤ 4000))
theorem bad_split : ∀ ps : List ByteArray, ¬ okP ps → ∃ pre bad post, ps = pre ++ bad :: post ∧ okP pre ∧ 4000 < bad.size
  | [], h => absurd (fun s hs => by cases hs) h
  | s :: ps, h => by
    by_cases hs : s.size ≤ 4000
    · have h' : ¬ okP ps := fun q => h (fun x hx => by rcases List.mem_cons.1 hx with rfl | hx; exact hs; exact q x hx)
      obtain ⟨pre, bad, post, rfl, h2, h3⟩ := bad_split ps h'
      exact ⟨s :: pre, bad, post, rfl, fun x hx => by rcases List.mem_cons.1 hx with rfl | hx; exact hs; exact h2 x hx, h3⟩
    · exact ⟨[], s, ps, rfl, (fun x hx => by cases hx), by omega⟩
theorem join_no (kind : Int) (ps : List ByteArray) (hl : ps.length ≤ 7) (h : ¬ okP ps) : FnR Try.prog G 64 [.int .u8 kind, .lstS ps] [] (.tup [.str eS, .int .i64 3]) [] := by
  obtain ⟨pre, bad, post, h1, h2, h3⟩ := bad_split ps h
  exact join_bad kind ps pre post bad h1 hl h2 h3
theorem put_no (kind : Int) (ps : List ByteArray) (hl : ps.length ≤ 7) (h : ¬ okP ps) (l : List ByteArray) :
    FnR Try.prog G 63 [.ptr 0 0 0 1, .int .u8 kind, .lstS ps] (tabE l) (.str eS) (tabE l) := by
  have c1 := join_no kind ps hl h
  have c0 := good_own l
  cases l with
  | nil =>
    simp only [tabE] at *
    refine FnR.of_walk (m := 70) (n0 := 16) tt_ok Try.func63 rfl rfl (by simp) (by simp [nmH]) ?_
    rw [show Try.f63.results.toList = [.tmp 6] from rfl]
    refine W.seqK fun K hK => W.regionK tt_ok ?_
    simp only [exOps_nil, exOps_cons, exOp_eq, nx_eq, cur_eq, stepQ, ev, ofV, parT, putT, erA, inB, opt, ret, onQ, ap, true_and, Nat.reduceEqDiff, Nat.reduceLT, Nat.reduceAdd, Nat.zero_add, if_false, reduceCtorEq]
    refine hK _ ?_
    clear hK K
    refine W.seqK fun K hK => W.regionK tt_ok ?_
    simp only [exOps_cons, exOp_eq, exCall_eq, nx_eq, cur_eq, evL, stepQ, ev, lk, putT, erA, inB, opt, ret, onQ, ap, true_and, Nat.reduceEqDiff, Nat.reduceLT, Nat.reduceAdd, if_true, if_false, reduceCtorEq, Option.bind_some, Option.map_some]
    refine CallK.pure _ _ c1 call64 (by simp only [AV.nmIn, bnd, req, ret, onQ, AV.isTup, isTupL, true_and, and_self, Bool.false_eq_true, List.append_nil, vw.vwL, vw, AV.free, AV.freeL, Bool.or_self]; all_goals (and_intros <;> first | exact AV.subL_refl _ | omega | (simp [AV.sub]; done) | rfl | (simp [AV.subL_refl]; done) | (simp; exact AV.subL_refl _))) ?_
    simp only [exOps_nil, exOps_cons, exOp_eq, nx_eq, cur_eq, stepQ, ev, lk, putT, erA, inB, opt, ret, onQ, ap, true_and, Nat.reduceEqDiff, Nat.reduceLT, Nat.reduceAdd, if_true, if_false, reduceCtorEq, List.getElem?_cons_zero, List.getElem?_cons_succ]
    refine hK _ ?_
    clear hK K
    refine W.seqK fun Kx hKx => ?_
    refine W.seqK fun K hK => W.regionK tt_ok ?_
    simp only [exOps_cons, exOp_eq, exCall_eq, nx_eq, cur_eq, evL, stepQ, ev, lk, putT, erA, inB, opt, ret, onQ, ap, true_and, Nat.reduceEqDiff, Nat.reduceLT, Nat.reduceAdd, if_true, if_false, reduceCtorEq, Option.bind_some, Option.map_some]
    refine CallK.with [(0, .obj 58 (.agg [.mp 1, .mp 2, .nils])), (1, .mset (.strs [])), (2, .mset (.strs []))] [(0, .obj 58 (.agg [.mp 1, .mp 2, .nils])), (1, .mset (.strs [])), (2, .mset (.strs []))] _ _ c0 call35 (by simp only [AV.nmIn, bnd, req, ret, onQ, AV.isTup, isTupL, and_true, true_and, and_self, Bool.false_eq_true, List.append_nil, vw.vwL, vw, AV.free, Bool.or_self]; all_goals (and_intros <;> first | exact AV.subL_refl _ | omega | (simp [AV.sub, entsFree, Ent.free]; done) | rfl | (simp [AV.subL_refl]; done))) (by simp [leL, lk]) (by intro n hn; first | (left; revert hn; simp [Nm, lk]; done) | (right; revert hn; simp only [Nm, lk]; split <;> simp <;> omega) | (by_cases h1 : Nm [(0, .obj 58 (.agg [.mp 1, .mp 2, .nils])), (1, .mset (.strs [])), (2, .mset (.strs []))] n; exact .inl h1; right; revert hn h1; simp only [Nm, lk]; split <;> (try split) <;> (try split) <;> (try split) <;> (try simp) <;> (try omega))) (by simp [entsIn, Ent.nmIn, AV.nmIn, AV.nmInL, Nm, lk]) ?_
    simp only [callDel, Int.reduceBNe, Bool.not_true, ↓gFF, ↓nFF, exOps_nil, exOps_cons, exOp_eq, nx_eq, cur_eq, stepQ, ev, ofV, lk, putT, erA, inB, opt, bnd, req, ret, onQ, ap, up, er, binI, binG, binF, intF, unF, pickF, and_true, true_and, and_self, Nat.reduceEqDiff, Nat.reduceLT, Nat.reduceAdd, if_true, if_false, reduceCtorEq, List.getElem?_cons_zero, List.getElem?_cons_succ, Option.bind_some, List.nil_append, List.cons_append, List.map_cons, List.map_nil, List.reverse_cons, List.reverse_nil]
    refine hK _ ?_
    clear hK K
    refine W.cond (b := true) (by simp only [ev, lk, Nat.reduceEqDiff, if_true, if_false, reduceCtorEq]) (fun _ => ?_) (fun h => absurd h (by simp))
    refine W.seqK fun K hK => W.regionK tt_ok ?_
    simp only [exOps_nil, exOps_cons, exOp_eq, nx_eq, cur_eq, stepQ, ev, ofV, putT, erA, inB, opt, ret, onQ, ap, true_and, Nat.reduceEqDiff, Nat.reduceLT, Nat.reduceAdd, if_true, if_false, reduceCtorEq]
    refine hK _ ?_
    clear hK K
    refine W.ret ?_
    simp only [fin_ret, finB, resQ, resV, leL, AV.nmIn, entsIn, lk, opt, bnd, req, ret, onQ, AV.isTup, thn_ret, and_true, true_and, and_self, Nat.reduceEqDiff, if_true, if_false, reduceCtorEq]
    simp [eS, Nm, lk, Ent.nmIn, AV.nmIn, AV.nmInL]
  | cons s1 l =>
    simp only [tabE] at *
    generalize nmL (s1 :: l) = a1 at *
    generalize tmL (s1 :: l) = a2 at *
    generalize alL (s1 :: l) = a3 at *
    refine FnR.of_walk (m := 70) (n0 := 16) tt_ok Try.func63 rfl rfl (by simp) (by simp [nmH]) ?_
    rw [show Try.f63.results.toList = [.tmp 6] from rfl]
    refine W.seqK fun K hK => W.regionK tt_ok ?_
    simp only [exOps_nil, exOps_cons, exOp_eq, nx_eq, cur_eq, stepQ, ev, ofV, parT, putT, erA, inB, opt, ret, onQ, ap, true_and, Nat.reduceEqDiff, Nat.reduceLT, Nat.reduceAdd, Nat.zero_add, if_false, reduceCtorEq]
    refine hK _ ?_
    clear hK K
    refine W.seqK fun K hK => W.regionK tt_ok ?_
    simp only [exOps_cons, exOp_eq, exCall_eq, nx_eq, cur_eq, evL, stepQ, ev, lk, putT, erA, inB, opt, ret, onQ, ap, true_and, Nat.reduceEqDiff, Nat.reduceLT, Nat.reduceAdd, if_true, if_false, reduceCtorEq, Option.bind_some, Option.map_some]
    refine CallK.pure _ _ c1 call64 (by simp only [AV.nmIn, bnd, req, ret, onQ, AV.isTup, isTupL, true_and, and_self, Bool.false_eq_true, List.append_nil, vw.vwL, vw, AV.free, AV.freeL, Bool.or_self]; all_goals (and_intros <;> first | exact AV.subL_refl _ | omega | (simp [AV.sub]; done) | rfl | (simp [AV.subL_refl]; done) | (simp; exact AV.subL_refl _))) ?_
    simp only [exOps_nil, exOps_cons, exOp_eq, nx_eq, cur_eq, stepQ, ev, lk, putT, erA, inB, opt, ret, onQ, ap, true_and, Nat.reduceEqDiff, Nat.reduceLT, Nat.reduceAdd, if_true, if_false, reduceCtorEq, List.getElem?_cons_zero, List.getElem?_cons_succ]
    refine hK _ ?_
    clear hK K
    refine W.seqK fun Kx hKx => ?_
    refine W.seqK fun K hK => W.regionK tt_ok ?_
    simp only [exOps_cons, exOp_eq, exCall_eq, nx_eq, cur_eq, evL, stepQ, ev, lk, putT, erA, inB, opt, ret, onQ, ap, true_and, Nat.reduceEqDiff, Nat.reduceLT, Nat.reduceAdd, if_true, if_false, reduceCtorEq, Option.bind_some, Option.map_some]
    refine CallK.with [(0, .obj 58 (.agg [.mp 1, .mp 2, .sl 3 1 0 (l.length + 1)])), (1, .mset (.strs a1)), (2, .mset (.strs a2)), (3, .vec 9 (.strs a3))] [(0, .obj 58 (.agg [.mp 1, .mp 2, .sl 3 1 0 (l.length + 1)])), (1, .mset (.strs a1)), (2, .mset (.strs a2)), (3, .vec 9 (.strs a3))] _ _ c0 call35 (by simp only [AV.nmIn, bnd, req, ret, onQ, AV.isTup, isTupL, and_true, true_and, and_self, Bool.false_eq_true, List.append_nil, vw.vwL, vw, AV.free, Bool.or_self]; all_goals (and_intros <;> first | exact AV.subL_refl _ | omega | (simp [AV.sub, entsFree, Ent.free, Row.free]; done) | rfl | (simp [AV.subL_refl]; done))) (by simp [leL, lk]) (by intro n hn; first | (left; revert hn; simp [Nm, lk]; done) | (right; revert hn; simp only [Nm, lk]; split <;> simp <;> omega) | (by_cases h1 : Nm [(0, .obj 58 (.agg [.mp 1, .mp 2, .sl 3 1 0 (l.length + 1)])), (1, .mset (.strs a1)), (2, .mset (.strs a2)), (3, .vec 9 (.strs a3))] n; exact .inl h1; right; revert hn h1; simp only [Nm, lk]; split <;> (try split) <;> (try split) <;> (try split) <;> (try simp) <;> (try omega))) (by simp [entsIn, Ent.nmIn, Row.nmIn, AV.nmIn, AV.nmInL, Nm, lk]) ?_
    simp only [callDel, Int.reduceBNe, Bool.not_true, ↓gFF, ↓nFF, exOps_nil, exOps_cons, exOp_eq, nx_eq, cur_eq, stepQ, ev, ofV, lk, putT, erA, inB, opt, bnd, req, ret, onQ, ap, up, er, binI, binG, binF, intF, unF, pickF, and_true, true_and, and_self, Nat.reduceEqDiff, Nat.reduceLT, Nat.reduceAdd, if_true, if_false, reduceCtorEq, List.getElem?_cons_zero, List.getElem?_cons_succ, Option.bind_some, List.nil_append, List.cons_append, List.map_cons, List.map_nil, List.reverse_cons, List.reverse_nil]
    refine hK _ ?_
    clear hK K
    refine W.cond (b := true) (by simp only [ev, lk, Nat.reduceEqDiff, if_true, if_false, reduceCtorEq]) (fun _ => ?_) (fun h => absurd h (by simp))
    refine W.seqK fun K hK => W.regionK tt_ok ?_
    simp only [exOps_nil, exOps_cons, exOp_eq, nx_eq, cur_eq, stepQ, ev, ofV, putT, erA, inB, opt, ret, onQ, ap, true_and, Nat.reduceEqDiff, Nat.reduceLT, Nat.reduceAdd, if_true, if_false, reduceCtorEq]
    refine hK _ ?_
    clear hK K
    refine W.ret ?_
    simp only [fin_ret, finB, resQ, resV, leL, AV.nmIn, entsIn, lk, opt, bnd, req, ret, onQ, AV.isTup, thn_ret, and_true, true_and, and_self, Nat.reduceEqDiff, if_true, if_false, reduceCtorEq]
    simp [eS, Nm, lk, Ent.nmIn, Row.nmIn, AV.nmIn, AV.nmInL]
/-- A table with terms, its row of names X. -/
def tbX (X : Nat) (l : List ByteArray) : Ents := [(0, .obj 58 (.agg [.mp 1, .mp 2, .sl X 1 0 l.length])), (1, .mset (.strs (nmL l))), (2, .mset (.strs (tmL l))), (X, .vec 9 (.strs (alL l)))]
theorem tabE_tbX {l : List ByteArray} (h : l ≠ []) : tabE l = tbX 3 l := by
  cases l with
  | nil => exact absurd rfl h
  | cons s l => rfl
theorem tbX_swap (X : Nat) (hX : 3 < X) (l : List ByteArray) : enMap (swp 3 X) (tbX 3 l) = tbX X l := by
  have h0 : ¬ (0 : Nat) = X := by omega
  have h1 : ¬ (1 : Nat) = X := by omega
  have h2 : ¬ (2 : Nat) = X := by omega
  simp [tbX, enMap, swp, Ent.map, AV.map, AV.mapL, Row.map, h0, h1, h2]
/-- What put does with a list of terms. -/
def putN (l : List ByteArray) (kind : Nat) (ps : List ByteArray) : ByteArray :=
  if okP ps then match ixOf l (encS kind ps) with
    | some i => nmS ((i + 1 : Nat) : Int)
    | none => nmS ((l.length + 1 : Nat) : Int)
  else eS
def putL (l : List ByteArray) (kind : Nat) (ps : List ByteArray) : List ByteArray :=
  if okP ps then match ixOf l (encS kind ps) with
    | some _ => l
    | none => l ++ [encS kind ps]
  else l
theorem put_00 (kind : Nat) (ps : List ByteArray) (hl : ps.length ≤ 7) (h : ¬ okP ps) : FnR Try.prog G 63 [.ptr 0 0 0 1, .int .u8 (kind : Nat), .lstS ps] (tabE []) (.str eS) (tabE []) := put_no kind ps hl h []
theorem put_01 (kind : Nat) (hk : kind < 256) (ps : List ByteArray) (hl : ps.length ≤ 7) (h : okP ps) : FnR Try.prog G 63 [.ptr 0 0 0 1, .int .u8 (kind : Nat), .lstS ps] (tabE []) (.str (nmS 1)) (tbX 992 [encS kind ps]) := by
  have c := put_new kind ps (by omega) h (jP_len _ ps _ h hl) (by omega) [] (by simp) (by rw [nmL_get]; rfl) (tmL_new [] (by simp))
  rw [enc_eq kind hk, List.nil_append, tabE_tbX (l := [encS kind ps]) (by simp), tbX_swap 992 (by omega)] at c
  exact c
theorem put_11 (kind : Nat) (hk : kind < 256) (ps : List ByteArray) (hl : ps.length ≤ 7) (l : List ByteArray) (hne : l ≠ []) (hll : l.length < 1000) : FnR Try.prog G 63 [.ptr 0 0 0 1, .int .u8 (kind : Nat), .lstS ps] (tbX 3 l) (.str (putN l kind ps)) (tbX 992 (putL l kind ps)) := by
  have out : ∀ s : ByteArray, FnR Try.prog G 63 [.ptr 0 0 0 1, .int .u8 (kind : Nat), .lstS ps] (tbX 3 l) (.str s) (tbX 3 l) → FnR Try.prog G 63 [.ptr 0 0 0 1, .int .u8 (kind : Nat), .lstS ps] (tbX 3 l) (.str s) (tbX 992 l) := by
    intro s hF
    have := hF.out 3 992 (by simp [tbX, Nm, lk]) (by simp [tbX, Nm, lk])
    rw [tbX_swap 992 (by omega)] at this
    simpa [AV.map] using this
  by_cases h : okP ps
  · rw [putN, putL, if_pos h, if_pos h]
    have hj := jP_len (kind : Nat) ps ps.length h hl
    cases hi : ixOf l (encS kind ps) with
    | some i =>
      have c := put_have kind ps (by omega) h hj (by omega) l (nmS ((i + 1 : Nat) : Int)) (by rw [enc_eq kind hk, nmL_get, hi]; rfl)
      rw [tabE_tbX hne] at c
      exact out _ c
    | none =>
      have c := put_new kind ps (by omega) h hj (by omega) l hll (by rw [enc_eq kind hk, nmL_get, hi]; rfl) (tmL_new l hll)
      rw [enc_eq kind hk, tabE_tbX hne, tabE_tbX (l := l ++ [encS kind ps]) (by simp), tbX_swap 992 (by omega)] at c
      exact c
  · rw [putN, putL, if_neg h, if_neg h]
    have c := put_no kind ps hl h l
    rw [tabE_tbX hne] at c
    exact out _ c
end Go.Proofs.Ytbefcdgjainflaa
