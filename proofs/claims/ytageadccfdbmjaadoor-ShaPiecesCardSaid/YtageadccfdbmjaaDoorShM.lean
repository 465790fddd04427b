/- The statement ShaPieces: the walk. -/
import Derived.Test.YtageadccfdbmjaaDoorShI
-- TT 3 4 5 22 24 26 27 28 30 34 35
-- TOUCH 18 1
set_option linter.unusedVariables false
set_option linter.unusedSimpArgs false
namespace Go.Proofs.YtageadccfdbmjaaDoor
open Sx
set_option maxRecDepth 100000
set_option maxHeartbeats 4000000
/-- The sum of the first lengths, as it is counted. -/
def smW (cs : List (List Int)) : Nat → Int
  | 0 => 0
  | k + 1 => IntKind.i64.wrap (smW cs k + ((cs.getD k []).length : Int))
/-- The bytes of the first texts. -/
def Ak (cs : List (List Int)) : Nat → List Int
  | 0 => []
  | k + 1 => Ak cs k ++ cs.getD k []
/-- The digests ahead of the first rounds. -/
def bl (cs : List (List Int)) : Nat → List AV
  | 0 => []
  | k + 1 => bl cs k ++ [digV (Ak cs k)]
theorem bl_len (cs : List (List Int)) : ∀ k, (bl cs k).length = k
  | 0 => rfl
  | k + 1 => by simp [bl, bl_len cs k]
theorem bl_get (cs : List (List Int)) : ∀ n k, k < n → (bl cs n).getD k default = digV (Ak cs k)
  | n + 1, k, h => by
    rw [bl, List.getD_eq_getElem?_getD]
    by_cases hk : k < n
    · rw [List.getElem?_append_left (by rw [bl_len]; omega), ← List.getD_eq_getElem?_getD, bl_get cs n k hk]
    · obtain rfl : k = n := by omega
      rw [List.getElem?_append_right (by rw [bl_len]; omega), bl_len, Nat.sub_self]
      rfl
theorem Ak_le (cs : List (List Int)) : ∀ n k, k ≤ n → (Ak cs k).length ≤ (Ak cs n).length
  | 0, k, h => by obtain rfl : k = 0 := by omega
                  exact Nat.le_refl _
  | n + 1, k, h => by
    by_cases hk : k = n + 1
    · subst hk; exact Nat.le_refl _
    · have := Ak_le cs n k (by omega)
      rw [Ak, List.length_append]; omega
theorem Ak_take (cs : List (List Int)) : ∀ n k, k ≤ n → (Ak cs n).take (Ak cs k).length = Ak cs k
  | 0, k, h => by obtain rfl : k = 0 := by omega
                  rfl
  | n + 1, k, h => by
    by_cases hk : k = n + 1
    · subst hk; exact List.take_length
    · rw [Ak, List.take_append_of_le_length (Ak_le cs n k (by omega)), Ak_take cs n k (by omega)]
theorem Ak_drop (cs : List (List Int)) (n k : Nat) (h : k ≤ n) : Ak cs k ++ (Ak cs n).drop (Ak cs k).length = Ak cs n := by
  have := List.take_append_drop (Ak cs k).length (Ak cs n)
  rw [Ak_take cs n k h] at this
  exact this
theorem smW_eq (cs : List (List Int)) (hl : ∀ c ∈ cs, c.length ≤ 140737488355328) : ∀ k, k ≤ cs.length → k ≤ 1000 → smW cs k = ((Ak cs k).length : Int) ∧ (Ak cs k).length ≤ k * 140737488355328
  | 0, _, _ => ⟨rfl, by simp [Ak]⟩
  | k + 1, h, h2 => by
    obtain ⟨h3, h4⟩ := smW_eq cs hl k (by omega) (by omega)
    have hk : (cs.getD k []).length ≤ 140737488355328 := by
      rw [List.getD_eq_getElem?_getD, List.getElem?_eq_getElem (by omega)]
      exact hl _ (List.getElem_mem _)
    rw [smW, h3, Ak, List.length_append, IntKind.wrap_i64]
    omega
theorem vwL_by {e h : Ents} : ∀ {l : List AV}, (∀ a ∈ l, vw e h a = ret (a, false)) → vw.vwL e h l = ret (l, false)
  | [], _ => rfl
  | a :: l, hl => by
    rw [vw.vwL, hl a (by simp), vwL_by (fun x hx => hl x (by simp [hx]))]
    simp [bnd, ret, req]
theorem vw_dig (e h : Ents) (A : List Int) : vw e h (digV A) = ret (digV A, false) := by
  simp [digV, vw, vw.vwL, bnd, ret, req, AV.nmIn]
theorem bl_mem (cs : List (List Int)) : ∀ k a, a ∈ bl cs k → ∃ A, a = digV A
  | k + 1, a, h => by
    rw [bl, List.mem_append, List.mem_singleton] at h
    rcases h with h | h
    · exact bl_mem cs k a h
    · exact ⟨_, h⟩
theorem vwL_bl (cs : List (List Int)) (k : Nat) (e h : Ents) : vw.vwL e h (bl cs k) = ret (bl cs k, false) :=
  vwL_by fun a ha => by obtain ⟨A, rfl⟩ := bl_mem cs k a ha; exact vw_dig e h A
theorem nmInL_by {n : Nat → Prop} : ∀ {l : List AV}, (∀ a ∈ l, ∃ A, a = digV A) → AV.nmInL n l
  | [], _ => by simp [AV.nmInL]
  | a :: l, hl => by
    obtain ⟨A, rfl⟩ := hl a (by simp)
    have := nmInL_by (n := n) (l := l) (fun x hx => hl x (by simp [hx]))
    simp [digV, AV.nmInL, AV.nmIn, this]
theorem nmInL_bl (cs : List (List Int)) (k : Nat) (n : Nat → Prop) : AV.nmInL n (bl cs k) = True := eq_true (nmInL_by fun a ha => bl_mem cs k a ha)
theorem mapL_by {f : Nat → Nat} : ∀ {l : List AV}, (∀ a ∈ l, ∃ A, a = digV A) → AV.mapL f l = l
  | [], _ => rfl
  | a :: l, hl => by
    obtain ⟨A, rfl⟩ := hl a (by simp)
    rw [AV.mapL, mapL_by (fun x hx => hl x (by simp [hx]))]
    rfl
theorem mapL_bl (cs : List (List Int)) (k : Nat) (f : Nat → Nat) : AV.mapL f (bl cs k) = bl cs k := mapL_by fun a ha => bl_mem cs k a ha
/-- What is collected, with its row. -/
def aV (X : Nat) (A : List Int) : AV := if A = [] then .nils else .sl X 1 0 A.length
def aE (X : Nat) (A : List Int) : Ents := if A = [] then [] else [(X, .vec 5 (.ints .u8 A))]
def bV (X k : Nat) : AV := if k = 0 then .nils else .sl X 10 0 k
def bE (X : Nat) (cs : List (List Int)) (k : Nat) : Ents := if k = 0 then [] else [(X, .vec 30 (.avs 10 (bl cs k)))]
theorem pieces_fn (cs : List (List Int)) (hcl : cs.length ≤ 140737488355328) (hl : ∀ c ∈ cs, c.length ≤ 140737488355328) :
    FnR Tryd.prog G 4 [.lst 1 (cs.map (.lstI .u8))] [] (.bool true) [] := by
  have hz : (List.replicate 8 (0 : Int)) = zst := rfl
  have hml : (cs.map (AV.lstI .u8)).length = cs.length := List.length_map ..
  refine FnR.of_walk (m := 92) (n0 := 0) tt_ok Tryd.func4 rfl rfl (by simp) (by simp [nmH]) ?_
  rw [show Tryd.f4.results.toList = [.tmp 2] from rfl]
  refine W.seqK fun K hK => W.regionK tt_ok ?_
  simp only [exOps_nil, exOps_cons, exOp_eq, nx_eq, cur_eq, stepQ, ev, ofV, parT, putT, erA, inB, opt, ret, onQ, ap, true_and, Nat.reduceLT, Nat.zero_add, if_false, reduceCtorEq]
  refine hK _ ?_
  clear hK K
  refine W.seqK fun Kz hKz => ?_
  refine W.seqK fun K hK => W.regionK tt_ok ?_
  simp only [exOps_cons, exOp_eq, exCall_eq, evL, ev, inB, true_and, Nat.reduceLT]
  refine CallK.pure _ _ alive_fn call15 (by simp only [ret, onQ, isTupL, true_and, Bool.false_eq_true, List.append_nil, vw.vwL, AV.free]; all_goals (and_intros <;> first | exact AV.subL_refl _ | assumption | trivial | omega | rfl | (simp [AV.subL_refl]; done) | (simp; exact AV.subL_refl _) | (simp [AV.subL, AV.sub]; done))) ?_
  simp only [Bool.not_true, exOps_nil, exOps_cons, exOp_eq, nx_eq, cur_eq, stepQ, ev, lk, putT, erA, inB, opt, bnd, req, ret, onQ, ap, unF, true_and, and_self, Nat.reduceEqDiff, Nat.reduceLT, Nat.reduceAdd, if_true, if_false, reduceCtorEq]
  refine hK _ ?_
  clear hK K
  refine W.cond (b := false) (by simp only [ev, lk, Nat.reduceEqDiff, if_true, if_false, reduceCtorEq]) (fun hb => absurd hb (by simp)) (fun _ => W.skip ?_)
  rw [thn_normal]
  refine hKz _ ?_
  refine W.seqK fun K hK => W.regionK tt_ok ?_
  simp only [exOps_nil, exOps_cons, exOp_eq, nx_eq, cur_eq, stepQ, ev, ofV, putT, erA, inB, opt, ret, onQ, ap, true_and, Nat.reduceEqDiff, Nat.reduceLT, Nat.reduceAdd, if_false, reduceCtorEq]
  refine hK _ ?_
  clear hK K
  refine W.seqK fun Kx hKx => ?_
  refine W.seqK fun K hK => W.regionK tt_ok ?_
  simp only [exOps_nil, exOps_cons, exOp_eq, exCall_eq, nx_eq, cur_eq, evL, stepQ, ev, ofV, lk, putT, erA, inB, opt, bnd, req, ret, onQ, ap, bltQ, bltV, lenF, true_and, and_self, or_false, Nat.reduceEqDiff, Nat.reduceLT, Nat.reduceAdd, if_true, if_false, reduceCtorEq, List.getElem?_cons_zero, Option.bind_some, Option.map_some, tt_34, hml]
  refine hK _ ?_
  clear hK K
  refine W.blockK ?_
  refine W.loopF (fun k : Nat => k ≤ cs.length) (fun k => ⟨[(0, .lst 1 (cs.map (.lstI .u8))), (2, .bool false), (3, .int .i64 (smW cs k)), (16, .lst 1 (cs.map (.lstI .u8))), (17, .int .i64 cs.length), (18, .int .i64 (k : Int))], [], 2048, 92⟩) (fun k => cs.length - k) 0 (by simp) (by simp [wkF, leF, leFE, AV.sub, vw, onQ, opt, req, ret, lk, AV.isTup, AV.nmIn, nmE, smW]) ?_
  · intro k hk K3 hK3
    by_cases hlt : k < cs.length
    · have c1 : (k : Int) < cs.length := by omega
      have he : (cs.map (AV.lstI .u8)).getD k default = .lstI .u8 cs[k] := by simp [List.getD_eq_getElem?_getD, hlt]
      have hge : cs.getD k [] = cs[k] := by simp [List.getD_eq_getElem?_getD, hlt]
      have hsm : smW cs (k + 1) = IntKind.i64.wrap (smW cs k + (cs[k].length : Int)) := by rw [smW, hge]
      generalize hc : cs[k] = c at *
      refine W.seqK fun K hK => W.regionK tt_ok ?_
      simp only [decide_true, exOps_nil, exOps_cons, exOp_eq, nx_eq, cur_eq, stepQ, ev, lk, putT, erA, inB, opt, bnd, req, ret, onQ, ap, binG, binF, intF, true_and, and_self, Nat.reduceEqDiff, Nat.reduceLT, Nat.reduceAdd, if_true, if_false, reduceCtorEq, c1]
      refine hK _ ?_
      clear hK K
      refine W.seqK fun K hK => W.cond (b := true) (by simp only [ev, lk, Nat.reduceEqDiff, if_true, if_false, reduceCtorEq]) (fun _ => W.skip ?_) (fun h => absurd h (by simp))
      rw [thn_normal]
      refine hK _ ?_
      clear hK K
      refine W.seqK fun K hK => W.blockK ?_
      refine W.seqK fun K hK => W.regionK tt_ok ?_
      simp only [exOps_nil, exOps_cons, exOp_eq, nx_eq, cur_eq, stepQ, ev, lk, putT, erA, inB, opt, bnd, req, ret, onQ, ap, Kd.elem, ixA, asI, ldP, ldC, ldS, Kd.agg, comps, csize, takeI, takeC, dropC, and_true, true_and, and_self, Nat.reduceEqDiff, Nat.reduceLT, Nat.reduceLeDiff, Nat.reduceAdd, Nat.reduceSub, Nat.sub_self, Int.toNat_natCast, Nat.le_refl, if_true, if_false, Bool.false_eq_true, reduceCtorEq, Option.bind_some, Option.map_some, tt_22, tt_34, hml, he, Int.toNat_natCast]
      refine ⟨by omega, ?_⟩
      refine hK _ ?_
      clear hK K
      refine W.region tt_ok ?_
      simp only [exOps_nil, exOps_cons, exOp_eq, exCall_eq, nx_eq, cur_eq, evL, stepQ, ev, lk, putT, erA, inB, opt, bnd, req, ret, onQ, ap, binG, binF, intF, bltQ, bltV, lenF, thn_normal, inb_normal, true_and, and_self, or_false, Nat.reduceEqDiff, Nat.reduceLT, Nat.reduceAdd, if_true, if_false, reduceCtorEq, List.getElem?_cons_zero, Option.bind_some, Option.map_some, tt_22]
      refine hK _ ?_
      refine W.region tt_ok ?_
      simp only [exOps_nil, exOps_cons, exOp_eq, nx_eq, cur_eq, stepQ, ev, ofV, lk, putT, erA, inB, opt, bnd, req, ret, onQ, ap, binG, binF, intF, thn_normal, true_and, and_self, Nat.reduceEqDiff, Nat.reduceLT, Nat.reduceAdd, if_true, if_false, reduceCtorEq, wrap_up k (by omega)]
      refine hK3 _ (k + 1) (by omega) (by omega) ?_
      simp [wkF, leF, leFE, AV.sub, vw, onQ, opt, req, ret, lk, AV.isTup, AV.nmIn, nmE, hsm]
    have hk' : k = cs.length := by omega
    subst hk'
    have c1 : ¬ ((cs.length : Int) < cs.length) := by omega
    refine W.seqK fun K hK => W.regionK tt_ok ?_
    simp only [decide_false, exOps_nil, exOps_cons, exOp_eq, nx_eq, cur_eq, stepQ, ev, lk, putT, erA, inB, opt, bnd, req, ret, onQ, ap, binG, binF, intF, true_and, and_self, Nat.reduceEqDiff, Nat.reduceLT, Nat.reduceAdd, if_true, if_false, reduceCtorEq, c1]
    refine hK _ ?_
    clear hK K
    refine W.seqK fun K hK => W.cond (b := false) (by simp only [ev, lk, Nat.reduceEqDiff, if_true, if_false, reduceCtorEq]) (fun h => absurd h (by simp)) (fun _ => W.exit ?_)
    simp only [thn_normal, thn_exit, inb_exit, if_true]
    refine hKx _ ?_
    generalize hSM : smW cs cs.length = SM at *
    refine W.seqK fun Ky hKy => ?_
    by_cases h1 : (10000 : Int) < SM
    · refine W.seqK fun K hK => W.regionK tt_ok ?_
      simp only [↓gTF, ↓nTF, decide_true, exOps_nil, exOps_cons, exOp_eq, nx_eq, cur_eq, stepQ, ev, ofV, lk, putT, erA, inB, opt, bnd, req, ret, onQ, ap, binG, binF, intF, pickF, true_and, and_self, Nat.reduceEqDiff, Nat.reduceLT, Nat.reduceAdd, if_true, if_false, reduceCtorEq, List.getElem?_cons_zero, List.getElem?_cons_succ, Option.bind_some, h1]
      refine hK _ ?_
      clear hK K
      refine W.cond (b := true) (by simp only [ev, lk, Nat.reduceEqDiff, if_true, if_false, reduceCtorEq]) (fun h1 => ?_) (fun h => absurd h (by simp))
      refine W.seqK fun K hK => W.regionK tt_ok ?_
      simp only [exOps_nil, exOps_cons, exOp_eq, nx_eq, cur_eq, stepQ, ev, ofV, putT, erA, inB, opt, ret, onQ, ap, true_and, Nat.reduceEqDiff, Nat.reduceLT, Nat.reduceAdd, if_true, if_false, reduceCtorEq]
      refine hK _ ?_
      clear hK K
      refine W.ret ?_
      simp only [fin_ret, finB, resQ, resV, leL, AV.nmIn, entsIn, lk, opt, bnd, req, ret, onQ, AV.isTup, thn_ret, and_self, Nat.reduceEqDiff, if_true, if_false, reduceCtorEq]
    by_cases h2 : (1000 : Int) < cs.length
    · refine W.seqK fun K hK => W.regionK tt_ok ?_
      simp only [↓gFF, ↓nFF, decide_true, decide_false, exOps_nil, exOps_cons, exOp_eq, exCall_eq, nx_eq, cur_eq, evL, stepQ, ev, ofV, lk, putT, erA, inB, opt, bnd, req, ret, onQ, ap, binG, binF, intF, pickF, bltQ, bltV, lenF, and_true, true_and, and_self, or_false, Nat.reduceEqDiff, Nat.reduceLT, Nat.reduceAdd, if_true, if_false, reduceCtorEq, List.getElem?_cons_zero, List.getElem?_cons_succ, Option.bind_some, Option.map_some, tt_34, h1, hml, h2]
      refine hK _ ?_
      clear hK K
      refine W.cond (b := true) (by simp only [ev, lk, Nat.reduceEqDiff, if_true, if_false, reduceCtorEq]) (fun h1 => ?_) (fun h => absurd h (by simp))
      refine W.seqK fun K hK => W.regionK tt_ok ?_
      simp only [exOps_nil, exOps_cons, exOp_eq, nx_eq, cur_eq, stepQ, ev, ofV, putT, erA, inB, opt, ret, onQ, ap, true_and, Nat.reduceEqDiff, Nat.reduceLT, Nat.reduceAdd, if_true, if_false, reduceCtorEq]
      refine hK _ ?_
      clear hK K
      refine W.ret ?_
      simp only [fin_ret, finB, resQ, resV, leL, AV.nmIn, entsIn, lk, opt, bnd, req, ret, onQ, AV.isTup, thn_ret, and_self, Nat.reduceEqDiff, if_true, if_false, reduceCtorEq]
    refine W.seqK fun K hK => W.regionK tt_ok ?_
    simp only [↓gFF, ↓nFF, decide_false, exOps_nil, exOps_cons, exOp_eq, exCall_eq, nx_eq, cur_eq, evL, stepQ, ev, ofV, lk, putT, erA, inB, opt, bnd, req, ret, onQ, ap, binG, binF, intF, pickF, bltQ, bltV, lenF, and_true, true_and, and_self, or_false, Nat.reduceEqDiff, Nat.reduceLT, Nat.reduceAdd, if_true, if_false, reduceCtorEq, List.getElem?_cons_zero, List.getElem?_cons_succ, Option.bind_some, Option.map_some, tt_34, h1, hml, h2]
    refine hK _ ?_
    clear hK K
    refine W.cond (b := false) (by simp only [ev, lk, Nat.reduceEqDiff, if_true, if_false, reduceCtorEq]) (fun h => absurd h (by simp)) (fun _ => W.skip ?_)
    rw [thn_normal]
    refine hKy _ ?_
    have hAll : (Ak cs cs.length).length ≤ 10000 := by
      have := (smW_eq cs hl cs.length (Nat.le_refl _) (by omega)).1
      omega
    clear hSM h1
    refine W.seqK fun K hK => W.regionK tt_ok ?_
    simp only [exOps_nil, exOps_cons, exOp_eq, nx_eq, cur_eq, stepQ, putT, erA, inB, opt, ret, onQ, ap, up, er, true_and, Nat.reduceEqDiff, Nat.reduceLT, Nat.reduceAdd, if_false, reduceCtorEq, tt_30]
    refine hK _ ?_
    clear hK K
    refine W.seqK fun K hK => W.regionK tt_ok ?_
    simp only [exOps_nil, exOps_cons, exOp_eq, nx_eq, cur_eq, stepQ, ev, ofV, putT, erA, inB, opt, ret, onQ, ap, true_and, Nat.reduceEqDiff, Nat.reduceLT, Nat.reduceAdd, if_false, reduceCtorEq]
    refine hK _ ?_
    clear hK K
    refine W.seqK fun K hK => W.regionK tt_ok ?_
    simp only [exOps_nil, exOps_cons, exOp_eq, nx_eq, cur_eq, stepQ, ev, ofV, putT, erA, inB, opt, ret, onQ, ap, true_and, Nat.reduceEqDiff, Nat.reduceLT, Nat.reduceAdd, if_false, reduceCtorEq]
    refine hK _ ?_
    clear hK K
    refine W.seqK fun Kw hKw => ?_
    refine W.seqK fun K hK => W.regionK tt_ok ?_
    simp only [exOps_nil, exOps_cons, exOp_eq, exCall_eq, nx_eq, cur_eq, evL, stepQ, ev, ofV, lk, putT, erA, inB, opt, bnd, req, ret, onQ, ap, bltQ, bltV, lenF, true_and, and_self, or_false, Nat.reduceEqDiff, Nat.reduceLT, Nat.reduceAdd, if_true, if_false, reduceCtorEq, List.getElem?_cons_zero, Option.bind_some, Option.map_some, tt_34, hml]
    refine hK _ ?_
    clear hK K
    refine W.blockK ?_
    refine W.loopF (fun k : Nat => k ≤ cs.length) (fun k => ⟨[(0, .lst 1 (cs.map (.lstI .u8))), (2, .bool false), (6, .ptr 2176 0 0 1), (7, aV 3008 (Ak cs k)), (8, bV 3024 k), (34, .lst 1 (cs.map (.lstI .u8))), (35, .int .i64 cs.length), (36, .int .i64 (k : Int))], aE 3008 (Ak cs k) ++ (bE 3024 cs k ++ [(2176, .obj 30 (.agg [.ints .u32 8 (S (Ak cs k)), .lstI .u8 (R (Ak cs k)), .int .u64 ((Ak cs k).length : Int)]))]), 4096, 92⟩) (fun k => cs.length - k) 0 (by simp) (by simp [wkF, leF, leFE, fzN, entSub, AV.sub, AV.subL, vw, vw.vwL, onQ, opt, bnd, req, ret, lk, Nm, AV.isTup, AV.nmIn, AV.nmInL, nmE, Ent.nmIn, Ak, aV, aE, bV, bE, S_nil, hz, R]) ?_
    · intro k hk K3 hK3
      by_cases hlt : k < cs.length
      · have c1 : (k : Int) < cs.length := by omega
        have he : (cs.map (AV.lstI .u8)).getD k default = .lstI .u8 cs[k] := by simp [List.getD_eq_getElem?_getD, hlt]
        have hge : cs.getD k [] = cs[k] := by simp [List.getD_eq_getElem?_getD, hlt]
        have hA1 : Ak cs (k + 1) = Ak cs k ++ cs[k] := by rw [Ak, hge]
        have hb1 : bl cs (k + 1) = bl cs k ++ [.agg [.ints .u32 8 (S (Ak cs k)), .lstI .u8 (R (Ak cs k)), .int .u64 ((Ak cs k).length : Int)]] := rfl
        have hle := Ak_le cs cs.length (k + 1) (by omega)
        have hbll := bl_len cs k
        rw [hA1, List.length_append] at hle
        generalize hA0 : Ak cs k = A at *
        generalize hc : cs[k] = c at *
        clear hc hl
        have hSl := S_len A
        have h1d : ∀ d : AV, List.take 1 (List.drop 0 [d]) = [d] := fun _ => rfl
        have htb : List.take k (bl cs k) = bl cs k := List.take_of_length_le (by omega)
        have c19 := sumB_fn (A ++ c)
        have c16 := sum_fn (A ++ c) (by rw [List.length_append]; omega)
        have hD1 := dig_len (A ++ c)
        generalize dig (A ++ c) = D1 at *
        have hw1 := wrap_up k (by omega)
        have hfl : (List.replicate 1 [AV.ints .u32 8 (List.replicate 8 0), AV.nils, AV.int .u64 0]).flatten = [AV.ints .u32 8 (List.replicate 8 0), AV.nils, AV.int .u64 0] := rfl
        by_cases hk0 : k = 0
        · have h0 : A = [] := by rw [← hA0, hk0]; rfl
          by_cases hc0 : c = []
          · have haV : aV 3008 A = .nils := if_pos h0
            have haE : aE 3008 A = [] := if_pos h0
            have hbV : bV 3024 k = .nils := if_pos hk0
            have hbE : bE 3024 cs k = [] := if_pos hk0
            have hb0 : bl cs k = [] := by rw [hk0]; rfl
            have hb2 : bl cs (k + 1) = [.agg [.ints .u32 8 (S A), .lstI .u8 (R A), .int .u64 (A.length : Int)]] := by rw [hb1, hb0]; rfl
            rw [haV, haE, hbV, hbE, List.nil_append]
            have hw : R A ++ c = [] := by rw [h0, hc0]; rfl
            have cw := writeB_no A c (by omega) hw
            have hRbc : R (A ++ c) = [] := by rw [← R_app, hw]; rfl
            rw [hRbc] at c19
            have hAc : A ++ c = [] := by rw [h0, hc0]; rfl
            rw [hAc] at c16
            generalize hS2 : S (A ++ c) = S2 at *
            generalize hR2 : R (A ++ c) = R2 at *
            generalize hS1 : S A = S1 at *
            generalize hR1 : R A = R1 at *
            refine W.seqK fun K hK => W.regionK tt_ok ?_
            simp only [decide_true, exOps_nil, exOps_cons, exOp_eq, nx_eq, cur_eq, stepQ, ev, lk, putT, erA, inB, opt, bnd, req, ret, onQ, ap, binG, binF, intF, true_and, and_self, Nat.reduceEqDiff, Nat.reduceLT, Nat.reduceAdd, if_true, if_false, reduceCtorEq, List.nil_append, c1]
            refine hK _ ?_
            clear hK K
            refine W.seqK fun K hK => W.cond (b := true) (by simp only [ev, lk, Nat.reduceEqDiff, if_true, if_false, reduceCtorEq]) (fun _ => W.skip ?_) (fun h => absurd h (by simp))
            rw [thn_normal]
            refine hK _ ?_
            clear hK K
            refine W.seqK fun K hK => W.blockK ?_
            refine W.seqK fun K hK => W.regionK tt_ok ?_
            simp only [exOps_nil, exOps_cons, exOp_eq, nx_eq, cur_eq, stepQ, ev, lk, putT, erA, inB, opt, bnd, req, ret, onQ, ap, Kd.elem, ixA, asI, ldP, ldC, ldS, Kd.agg, comps, csize, takeI, takeC, dropC, and_true, true_and, and_self, Nat.reduceEqDiff, Nat.reduceLT, Nat.reduceLeDiff, Nat.reduceAdd, Nat.reduceSub, Nat.sub_self, Int.toNat_natCast, Nat.le_refl, if_true, if_false, Bool.false_eq_true, reduceCtorEq, Option.bind_some, Option.map_some, tt_22, tt_34, hml, he, Int.toNat_natCast]
            refine ⟨by omega, ?_⟩
            refine hK _ ?_
            clear hK K
            refine W.seqK fun K hK => W.regionK tt_ok ?_
            simp only [exOps_nil, exOps_cons, exOp_eq, exCall_eq, nx_eq, cur_eq, evL, evP, stepQ, ev, lk, putT, erA, inB, opt, bnd, req, ret, onQ, ap, up, er, AV.isTup, AV.isAgg, ldP, ldE, ldC, ldS, Kd.agg, comps, szL, csize, takeI, takeC, dropC, stC, stS, bltQ, bltV, appQ, appV, srcQ, Row.len, Row.sz, Row.take, Row.drop, Ent.row, Row.lst, bldA, bslQ, zeroCs, cellsRow, chunks, ones, true_and, and_self, or_false, Nat.reduceEqDiff, Nat.reduceLT, Nat.reduceLeDiff, Nat.reduceAdd, Nat.reduceSub, Nat.reduceMul, Nat.sub_self, Nat.le_refl, Nat.add_zero, Nat.zero_add, if_true, if_false, cond_true, reduceCtorEq, ne_eq, not_false_eq_true, Option.bind_some, Option.map_some, List.append_nil, List.nil_append, tt_30, tt_35, hfl, h1d, List.length_cons, List.length_nil]
            rw [← hb2]
            repeat (refine ⟨by omega, ?_⟩)
            refine hK _ ?_
            clear hK K
            refine W.seqK fun K hK => W.regionK tt_ok ?_
            simp only [exOps_cons, exOp_eq, exCall_eq, nx_eq, cur_eq, evL, stepQ, ev, lk, putT, erA, inB, opt, bnd, req, ret, onQ, ap, ldP, ldE, ldC, ldS, Kd.agg, comps, csize, takeI, takeC, dropC, true_and, and_self, Nat.reduceEqDiff, Nat.reduceLT, Nat.reduceLeDiff, Nat.reduceAdd, Nat.reduceSub, Nat.sub_self, Nat.le_refl, Nat.add_zero, if_true, if_false, reduceCtorEq, Option.bind_some, Option.map_some, tt_30]
            refine CallK.pure _ _ cw call18 (by simp only [AV.nmIn, bnd, req, ret, onQ, AV.isTup, isTupL, true_and, and_self, Bool.false_eq_true, List.append_nil, vw.vwL, vw, AV.free, AV.freeL, Bool.or_self]; all_goals (and_intros <;> first | exact AV.subL_refl _ | assumption | trivial | omega | rfl | (simp [AV.subL_refl]; done) | (simp; exact AV.subL_refl _) | (simp [AV.subL, AV.sub]; done))) ?_
            simp only [exOps_nil, exOps_cons, exOp_eq, nx_eq, cur_eq, stepQ, ev, lk, putT, erA, inB, opt, bnd, req, ret, onQ, ap, up, er, AV.isAgg, Kd.agg, comps, szL, csize, takeI, takeC, dropC, stP, stE, stC, stS, true_and, and_self, Nat.reduceEqDiff, Nat.reduceLT, Nat.reduceLeDiff, Nat.reduceAdd, Nat.reduceSub, Nat.sub_self, Nat.le_refl, Nat.add_zero, Nat.zero_add, if_true, if_false, reduceCtorEq, Option.bind_some, Option.map_some, List.append_nil, List.nil_append, tt_30]
            repeat (refine ⟨by omega, ?_⟩)
            refine hK _ ?_
            clear hK K
            refine W.seqK fun K hK => W.regionK tt_ok ?_
            simp only [exOps_nil, exOps_cons, exOp_eq, exCall_eq, nx_eq, cur_eq, curV_eq, evL, stepQ, ev, lk, putT, erA, inB, opt, bnd, req, ret, onQ, ap, bltQ, bltV, appQ, appV, srcQ, rowOf, Row.len, Row.sz, Row.lst, and_true, true_and, and_self, Nat.reduceEqDiff, Nat.reduceLT, Nat.reduceAdd, Nat.reduceMul, Nat.zero_le, if_true, if_false, reduceCtorEq, ne_eq, not_true_eq_false, Option.bind_some, Option.map_some, tt_5, tt_22, show c.length = 0 by rw [hc0]; rfl]
            refine Or.inl ?_
            refine hK _ ?_
            clear hK K
            refine W.seqK fun K hK => W.regionK tt_ok ?_
            simp only [exOps_cons, exOp_eq, exCall_eq, nx_eq, cur_eq, evL, stepQ, ev, lk, putT, erA, inB, opt, bnd, req, ret, onQ, ap, ldP, ldE, ldC, ldS, Kd.agg, comps, csize, takeI, takeC, dropC, true_and, and_self, Nat.reduceEqDiff, Nat.reduceLT, Nat.reduceLeDiff, Nat.reduceAdd, Nat.reduceSub, Nat.sub_self, Nat.le_refl, Nat.add_zero, if_true, if_false, reduceCtorEq, Option.bind_some, Option.map_some, tt_30]
            refine CallK.pure _ _ c19 call19 (by simp only [AV.nmIn, bnd, req, ret, onQ, AV.isTup, isTupL, true_and, and_self, Bool.false_eq_true, List.append_nil, vw.vwL, vw, AV.free, AV.freeL, Bool.or_self]; all_goals (and_intros <;> first | exact AV.subL_refl _ | assumption | trivial | omega | rfl | (simp [AV.subL_refl]; done) | (simp; exact AV.subL_refl _) | (simp [AV.subL, AV.sub]; done))) ?_
            simp only [exOps_cons, exOp_eq, exCall_eq, nx_eq, cur_eq, evL, stepQ, ev, lk, putT, erA, inB, opt, ret, onQ, ap, true_and, Nat.reduceEqDiff, Nat.reduceLT, Nat.reduceAdd, if_true, if_false, reduceCtorEq, Option.bind_some, Option.map_some]
            refine CallK.pure _ _ c16 call16 (by simp only [AV.nmIn, bnd, req, ret, onQ, AV.isTup, isTupL, true_and, and_self, Bool.false_eq_true, List.append_nil, vw.vwL, vw, AV.free, AV.freeL, Bool.or_self]; all_goals (and_intros <;> first | exact AV.subL_refl _ | assumption | trivial | omega | rfl | (simp [AV.subL_refl]; done) | (simp; exact AV.subL_refl _) | (simp [AV.subL, AV.sub]; done))) ?_
            simp only [Bool.not_true, exOps_nil, exOps_cons, exOp_eq, nx_eq, cur_eq, stepQ, ev, lk, putT, erA, inB, opt, bnd, req, ret, onQ, ap, binG, eqOp, intsOf, and_true, true_and, and_self, Nat.reduceEqDiff, Nat.reduceLT, Nat.reduceAdd, if_true, if_false, reduceCtorEq, Option.map_some, List.append_nil, tt_5, tt_24, beq_self_eq_true]
            repeat (refine ⟨by omega, ?_⟩)
            refine hK _ ?_
            clear hK K
            refine W.cond (b := false) (by simp only [ev, lk, Nat.reduceEqDiff, if_true, if_false, reduceCtorEq]) (fun h => absurd h (by simp)) (fun _ => W.skip ?_)
            simp only [thn_normal, inb_normal]
            refine hK _ ?_
            refine W.freeze ⟨[(0, .lst 1 (cs.map (.lstI .u8))), (2, .bool false), (6, .ptr 2176 0 0 1), (7, .nils), (8, .sl 4208 10 0 (k + 1)), (34, .lst 1 (cs.map (.lstI .u8))), (35, .int .i64 cs.length), (36, .int .i64 (k : Int))], [(4208, .vec 30 (.avs 10 (bl cs (k + 1)))), (2176, .obj 30 (.agg [.ints .u32 8 S2, .lstI .u8 R2, .int .u64 ((A ++ c).length : Int)]))], 8192, 92⟩ (by simp [wkF, leF, leFE, fzN, fzR, entSub, AV.sub, AV.subL, vw, vw.vwL, onQ, opt, bnd, req, ret, lk, Nm, AV.isTup, AV.nmIn, AV.nmInL, nmE, Ent.nmIn, Row.nmIn, vwL_bl, nmInL_bl, hRbc, hk0]) ?_
            refine W.swap 4208 3024 (by simp [Nm, lk]) ?_
            simp only [St.swap, tmMap, enMap, swp, AV.map, AV.mapL, Ent.map, Row.map, mapL_bl, Nat.reduceEqDiff, if_true, if_false]
            refine W.region tt_ok ?_
            simp only [exOps_nil, exOps_cons, exOp_eq, nx_eq, cur_eq, stepQ, ev, ofV, lk, putT, erA, inB, opt, bnd, req, ret, onQ, ap, binG, binF, intF, thn_normal, true_and, and_self, Nat.reduceEqDiff, Nat.reduceLT, Nat.reduceAdd, if_true, if_false, reduceCtorEq, hw1]
            have haV1 : aV 3008 (A ++ c) = .nils := if_pos hAc
            have haE1 : aE 3008 (A ++ c) = [] := if_pos hAc
            have hbV1 : bV 3024 (k + 1) = .sl 3024 10 0 (k + 1) := if_neg (by omega)
            have hbE1 : bE 3024 cs (k + 1) = [(3024, .vec 30 (.avs 10 (bl cs (k + 1))))] := if_neg (by omega)
            refine hK3 _ (k + 1) (by omega) (by omega) ?_
            simp only [hA1, haV1, haE1, hbV1, hbE1, hS2, hR2]
            simp [wkF, leF, leFE, fzN, fzR, entSub, AV.sub, AV.subL, vw, vw.vwL, onQ, opt, bnd, req, ret, lk, Nm, AV.isTup, AV.nmIn, AV.nmInL, nmE, Ent.nmIn, Row.nmIn, vwL_bl, nmInL_bl]
          · have haV : aV 3008 A = .nils := if_pos h0
            have haE : aE 3008 A = [] := if_pos h0
            have hbV : bV 3024 k = .nils := if_pos hk0
            have hbE : bE 3024 cs k = [] := if_pos hk0
            have hb0 : bl cs k = [] := by rw [hk0]; rfl
            have hb2 : bl cs (k + 1) = [.agg [.ints .u32 8 (S A), .lstI .u8 (R A), .int .u64 (A.length : Int)]] := by rw [hb1, hb0]; rfl
            rw [haV, haE, hbV, hbE, List.nil_append]
            have hw : R A ++ c ≠ [] := by rw [h0]; exact hc0
            have cw := writeB_at 4272 A c (by omega) (by omega) hw
            have hra := R_app A c
            rw [← R_app] at c19
            have hAc : A ++ c = c := by rw [h0, List.nil_append]
            have ht : List.take c.length (List.drop 0 c) = c := by rw [List.drop_zero, List.take_length]
            rw [hAc, ← ht] at c16
            have hcl0 : ¬ c.length = 0 := fun h => hc0 (List.length_eq_zero_iff.1 h)
            generalize hS2 : S (A ++ c) = S2 at *
            generalize hR2 : R (A ++ c) = R2 at *
            generalize hS1 : S A = S1 at *
            generalize R A ++ c = RA at *
            generalize hR1 : R A = R1 at *
            refine W.seqK fun K hK => W.regionK tt_ok ?_
            simp only [decide_true, exOps_nil, exOps_cons, exOp_eq, nx_eq, cur_eq, stepQ, ev, lk, putT, erA, inB, opt, bnd, req, ret, onQ, ap, binG, binF, intF, true_and, and_self, Nat.reduceEqDiff, Nat.reduceLT, Nat.reduceAdd, if_true, if_false, reduceCtorEq, List.nil_append, c1]
            refine hK _ ?_
            clear hK K
            refine W.seqK fun K hK => W.cond (b := true) (by simp only [ev, lk, Nat.reduceEqDiff, if_true, if_false, reduceCtorEq]) (fun _ => W.skip ?_) (fun h => absurd h (by simp))
            rw [thn_normal]
            refine hK _ ?_
            clear hK K
            refine W.seqK fun K hK => W.blockK ?_
            refine W.seqK fun K hK => W.regionK tt_ok ?_
            simp only [exOps_nil, exOps_cons, exOp_eq, nx_eq, cur_eq, stepQ, ev, lk, putT, erA, inB, opt, bnd, req, ret, onQ, ap, Kd.elem, ixA, asI, ldP, ldC, ldS, Kd.agg, comps, csize, takeI, takeC, dropC, and_true, true_and, and_self, Nat.reduceEqDiff, Nat.reduceLT, Nat.reduceLeDiff, Nat.reduceAdd, Nat.reduceSub, Nat.sub_self, Int.toNat_natCast, Nat.le_refl, if_true, if_false, Bool.false_eq_true, reduceCtorEq, Option.bind_some, Option.map_some, tt_22, tt_34, hml, he, Int.toNat_natCast]
            refine ⟨by omega, ?_⟩
            refine hK _ ?_
            clear hK K
            refine W.seqK fun K hK => W.regionK tt_ok ?_
            simp only [exOps_nil, exOps_cons, exOp_eq, exCall_eq, nx_eq, cur_eq, evL, evP, stepQ, ev, lk, putT, erA, inB, opt, bnd, req, ret, onQ, ap, up, er, AV.isTup, AV.isAgg, ldP, ldE, ldC, ldS, Kd.agg, comps, szL, csize, takeI, takeC, dropC, stC, stS, bltQ, bltV, appQ, appV, srcQ, Row.len, Row.sz, Row.take, Row.drop, Ent.row, Row.lst, bldA, bslQ, zeroCs, cellsRow, chunks, ones, true_and, and_self, or_false, Nat.reduceEqDiff, Nat.reduceLT, Nat.reduceLeDiff, Nat.reduceAdd, Nat.reduceSub, Nat.reduceMul, Nat.sub_self, Nat.le_refl, Nat.add_zero, Nat.zero_add, if_true, if_false, cond_true, reduceCtorEq, ne_eq, not_false_eq_true, Option.bind_some, Option.map_some, List.append_nil, List.nil_append, tt_30, tt_35, hfl, h1d, List.length_cons, List.length_nil]
            rw [← hb2]
            repeat (refine ⟨by omega, ?_⟩)
            refine hK _ ?_
            clear hK K
            refine W.seqK fun K hK => W.regionK tt_ok ?_
            simp only [exOps_cons, exOp_eq, exCall_eq, nx_eq, cur_eq, evL, stepQ, ev, lk, putT, erA, inB, opt, bnd, req, ret, onQ, ap, ldP, ldE, ldC, ldS, Kd.agg, comps, csize, takeI, takeC, dropC, true_and, and_self, Nat.reduceEqDiff, Nat.reduceLT, Nat.reduceLeDiff, Nat.reduceAdd, Nat.reduceSub, Nat.sub_self, Nat.le_refl, Nat.add_zero, if_true, if_false, reduceCtorEq, Option.bind_some, Option.map_some, tt_30]
            refine CallK.with [] [(4272, .vec 5 (.ints .u8 RA))] _ _ cw call18 (by simp only [AV.nmIn, bnd, req, ret, onQ, AV.isTup, isTupL, true_and, and_self, Bool.false_eq_true, List.append_nil, vw.vwL, vw, AV.free, AV.freeL, Bool.or_self]; all_goals (and_intros <;> first | exact AV.subL_refl _ | assumption | trivial | omega | rfl | (simp []; done) | (simp [AV.subL, AV.sub, entsFree]; done))) (by simp [leL]) (by intro n hn; first | (left; revert hn; simp [Nm, lk]; done) | (right; revert hn; simp only [Nm, lk]; split <;> simp <;> omega)) (by simp [entsIn]) ?_
            simp only [callDel, exOps_nil, exOps_cons, exOp_eq, nx_eq, cur_eq, stepQ, ev, lk, putT, erA, inB, opt, bnd, req, ret, onQ, ap, up, er, AV.isAgg, Kd.agg, comps, szL, csize, takeI, takeC, dropC, stP, stE, stC, stS, true_and, and_self, Nat.reduceEqDiff, Nat.reduceLT, Nat.reduceLeDiff, Nat.reduceAdd, Nat.reduceSub, Nat.sub_self, Nat.le_refl, Nat.add_zero, Nat.zero_add, if_true, if_false, reduceCtorEq, Option.bind_some, Option.map_some, List.append_nil, List.nil_append, tt_30, List.map_cons, List.map_nil, List.reverse_cons, List.reverse_nil]
            repeat (refine ⟨by omega, ?_⟩)
            refine hK _ ?_
            clear hK K
            refine W.seqK fun K hK => W.regionK tt_ok ?_
            simp only [exOps_nil, exOps_cons, exOp_eq, exCall_eq, nx_eq, cur_eq, curV_eq, evL, stepQ, ev, lk, putT, erA, inB, opt, bnd, req, ret, onQ, ap, up, er, bltQ, bltV, appQ, appV, srcQ, rowOf, Row.len, Row.sz, Row.lst, and_true, true_and, and_self, Nat.reduceEqDiff, Nat.reduceLT, Nat.reduceAdd, if_true, if_false, reduceCtorEq, ne_eq, not_false_eq_true, Option.bind_some, Option.map_some, tt_5, tt_22, hcl0]
            refine Or.inl ⟨⟨by omega, by omega⟩, ?_⟩
            refine hK _ ?_
            clear hK K
            refine W.seqK fun K hK => W.regionK tt_ok ?_
            simp only [exOps_cons, exOp_eq, exCall_eq, nx_eq, cur_eq, evL, stepQ, ev, lk, putT, erA, inB, opt, bnd, req, ret, onQ, ap, ldP, ldE, ldC, ldS, Kd.agg, comps, csize, takeI, takeC, dropC, true_and, and_self, Nat.reduceEqDiff, Nat.reduceLT, Nat.reduceLeDiff, Nat.reduceAdd, Nat.reduceSub, Nat.sub_self, Nat.le_refl, Nat.add_zero, if_true, if_false, reduceCtorEq, Option.bind_some, Option.map_some, tt_30]
            refine CallK.pure _ _ c19 call19 (by simp only [Bool.or_true, Bool.or_false, AV.nmIn, lk, opt, bnd, req, ret, onQ, AV.isTup, isTupL, Ent.row, and_true, true_and, and_self, Nat.reduceEqDiff, if_true, if_false, forall_const, List.append_nil, vw.vwL, vw, viewR, AV.free, AV.freeL, Ent.row, Bool.or_self]; all_goals (and_intros <;> first | exact AV.subL_refl _ | assumption | trivial | omega | rfl | (simp [AV.subL_refl]; done) | (simp; exact AV.subL_refl _) | (simp [AV.subL, AV.sub]; done))) ?_
            simp only [exOps_cons, exOp_eq, exCall_eq, nx_eq, cur_eq, evL, stepQ, ev, lk, putT, erA, inB, opt, ret, onQ, ap, true_and, Nat.reduceEqDiff, Nat.reduceLT, Nat.reduceAdd, if_true, if_false, reduceCtorEq, Option.bind_some, Option.map_some]
            refine CallK.pure _ _ c16 call16 (by simp only [Bool.or_false, lk, opt, bnd, req, ret, onQ, AV.isTup, isTupL, Ent.row, true_and, and_self, Nat.reduceEqDiff, Nat.le_refl, Nat.zero_add, if_true, if_false, forall_const, List.append_nil, vw.vwL, vw, viewR, AV.free, AV.freeL, Ent.row, Bool.or_self]; all_goals (and_intros <;> first | exact AV.subL_refl _ | assumption | trivial | omega | rfl | (simp [AV.subL_refl]; done) | (simp; exact AV.subL_refl _) | (simp [AV.subL, AV.sub]; done))) ?_
            simp only [Bool.not_true, exOps_nil, exOps_cons, exOp_eq, nx_eq, cur_eq, stepQ, ev, lk, putT, erA, inB, opt, bnd, req, ret, onQ, ap, binG, eqOp, intsOf, and_true, true_and, and_self, Nat.reduceEqDiff, Nat.reduceLT, Nat.reduceAdd, if_true, if_false, reduceCtorEq, Option.map_some, List.append_nil, tt_5, tt_24, beq_self_eq_true]
            repeat (refine ⟨by omega, ?_⟩)
            refine hK _ ?_
            clear hK K
            refine W.cond (b := false) (by simp only [ev, lk, Nat.reduceEqDiff, if_true, if_false, reduceCtorEq]) (fun h => absurd h (by simp)) (fun _ => W.skip ?_)
            simp only [thn_normal, inb_normal]
            refine hK _ ?_
            refine W.freeze ⟨[(0, .lst 1 (cs.map (.lstI .u8))), (2, .bool false), (6, .ptr 2176 0 0 1), (7, .sl 4336 1 0 c.length), (8, .sl 4208 10 0 (k + 1)), (34, .lst 1 (cs.map (.lstI .u8))), (35, .int .i64 cs.length), (36, .int .i64 (k : Int))], [(4336, .vec 5 (.ints .u8 c)), (4208, .vec 30 (.avs 10 (bl cs (k + 1)))), (2176, .obj 30 (.agg [.ints .u32 8 S2, .lstI .u8 R2, .int .u64 ((A ++ c).length : Int)]))], 8192, 92⟩ (by simp [wkF, leF, leFE, fzN, fzR, entSub, AV.sub, AV.subL, vw, vw.vwL, viewR, onQ, opt, bnd, req, ret, lk, Nm, Ent.row, AV.isTup, AV.nmIn, AV.nmInL, nmE, Ent.nmIn, Row.nmIn, vwL_bl, nmInL_bl, hk0, hra, off_le]) ?_
            refine W.swap 4336 3008 (by simp [Nm, lk]) ?_
            refine W.swap 4208 3024 (by simp [Nm, lk, St.swap]) ?_
            simp only [St.swap, tmMap, enMap, swp, AV.map, AV.mapL, Ent.map, Row.map, mapL_bl, Nat.reduceEqDiff, if_true, if_false]
            refine W.region tt_ok ?_
            simp only [exOps_nil, exOps_cons, exOp_eq, nx_eq, cur_eq, stepQ, ev, ofV, lk, putT, erA, inB, opt, bnd, req, ret, onQ, ap, binG, binF, intF, thn_normal, true_and, and_self, Nat.reduceEqDiff, Nat.reduceLT, Nat.reduceAdd, if_true, if_false, reduceCtorEq, hw1]
            have haV1 : aV 3008 (A ++ c) = .sl 3008 1 0 c.length := by rw [hAc]; exact if_neg hc0
            have haE1 : aE 3008 (A ++ c) = [(3008, .vec 5 (.ints .u8 c))] := by rw [hAc]; exact if_neg hc0
            have hbV1 : bV 3024 (k + 1) = .sl 3024 10 0 (k + 1) := if_neg (by omega)
            have hbE1 : bE 3024 cs (k + 1) = [(3024, .vec 30 (.avs 10 (bl cs (k + 1))))] := if_neg (by omega)
            refine hK3 _ (k + 1) (by omega) (by omega) ?_
            simp only [hA1, haV1, haE1, hbV1, hbE1, hS2, hR2]
            simp [wkF, leF, leFE, fzN, fzR, entSub, AV.sub, AV.subL, vw, vw.vwL, onQ, opt, bnd, req, ret, lk, Nm, AV.isTup, AV.nmIn, AV.nmInL, nmE, Ent.nmIn, Row.nmIn, vwL_bl, nmInL_bl]
        by_cases h0 : A = []
        · by_cases hc0 : c = []
          · have haV : aV 3008 A = .nils := if_pos h0
            have haE : aE 3008 A = [] := if_pos h0
            have hbV : bV 3024 k = .sl 3024 10 0 k := if_neg hk0
            have hbE : bE 3024 cs k = [(3024, .vec 30 (.avs 10 (bl cs k)))] := if_neg hk0
            rw [haV, haE, hbV, hbE, List.nil_append]
            have hw : R A ++ c = [] := by rw [h0, hc0]; rfl
            have cw := writeB_no A c (by omega) hw
            have hRbc : R (A ++ c) = [] := by rw [← R_app, hw]; rfl
            rw [hRbc] at c19
            have hAc : A ++ c = [] := by rw [h0, hc0]; rfl
            rw [hAc] at c16
            generalize hS2 : S (A ++ c) = S2 at *
            generalize hR2 : R (A ++ c) = R2 at *
            generalize hS1 : S A = S1 at *
            generalize hR1 : R A = R1 at *
            refine W.seqK fun K hK => W.regionK tt_ok ?_
            simp only [decide_true, exOps_nil, exOps_cons, exOp_eq, nx_eq, cur_eq, stepQ, ev, lk, putT, erA, inB, opt, bnd, req, ret, onQ, ap, binG, binF, intF, true_and, and_self, Nat.reduceEqDiff, Nat.reduceLT, Nat.reduceAdd, if_true, if_false, reduceCtorEq, List.nil_append, List.cons_append, c1]
            refine hK _ ?_
            clear hK K
            refine W.seqK fun K hK => W.cond (b := true) (by simp only [ev, lk, Nat.reduceEqDiff, if_true, if_false, reduceCtorEq]) (fun _ => W.skip ?_) (fun h => absurd h (by simp))
            rw [thn_normal]
            refine hK _ ?_
            clear hK K
            refine W.seqK fun K hK => W.blockK ?_
            refine W.seqK fun K hK => W.regionK tt_ok ?_
            simp only [exOps_nil, exOps_cons, exOp_eq, nx_eq, cur_eq, stepQ, ev, lk, putT, erA, inB, opt, bnd, req, ret, onQ, ap, Kd.elem, ixA, asI, ldP, ldC, ldS, Kd.agg, comps, csize, takeI, takeC, dropC, and_true, true_and, and_self, Nat.reduceEqDiff, Nat.reduceLT, Nat.reduceLeDiff, Nat.reduceAdd, Nat.reduceSub, Nat.sub_self, Int.toNat_natCast, Nat.le_refl, if_true, if_false, Bool.false_eq_true, reduceCtorEq, Option.bind_some, Option.map_some, tt_22, tt_34, hml, he, Int.toNat_natCast]
            refine ⟨by omega, ?_⟩
            refine hK _ ?_
            clear hK K
            refine W.seqK fun K hK => W.regionK tt_ok ?_
            simp only [exOps_nil, exOps_cons, exOp_eq, exCall_eq, nx_eq, cur_eq, evL, evP, stepQ, ev, lk, putT, erA, inB, opt, bnd, req, ret, onQ, ap, up, er, AV.isTup, AV.isAgg, ldP, ldE, ldC, ldS, Kd.agg, comps, szL, csize, takeI, takeC, dropC, stC, stS, bltQ, bltV, appQ, appV, srcQ, Row.len, Row.sz, Row.take, Row.drop, Row.app, Ent.row, bldA, bslQ, zeroCs, cellsRow, chunks, ones, and_true, true_and, and_self, or_false, Nat.reduceEqDiff, Nat.reduceLT, Nat.reduceLeDiff, Nat.reduceAdd, Nat.reduceSub, Nat.reduceMul, Nat.sub_self, Nat.le_refl, Nat.add_zero, Nat.zero_add, if_true, if_false, cond_true, reduceCtorEq, Option.bind_some, Option.map_some, List.append_nil, List.nil_append, tt_30, tt_35, hfl, h1d, List.length_cons, List.length_nil, htb, hbll]
            rw [← hb1]
            repeat (refine ⟨by omega, ?_⟩)
            refine hK _ ?_
            clear hK K
            refine W.seqK fun K hK => W.regionK tt_ok ?_
            simp only [exOps_cons, exOp_eq, exCall_eq, nx_eq, cur_eq, evL, stepQ, ev, lk, putT, erA, inB, opt, bnd, req, ret, onQ, ap, ldP, ldE, ldC, ldS, Kd.agg, comps, csize, takeI, takeC, dropC, true_and, and_self, Nat.reduceEqDiff, Nat.reduceLT, Nat.reduceLeDiff, Nat.reduceAdd, Nat.reduceSub, Nat.sub_self, Nat.le_refl, Nat.add_zero, if_true, if_false, reduceCtorEq, Option.bind_some, Option.map_some, tt_30]
            refine CallK.pure _ _ cw call18 (by simp only [AV.nmIn, bnd, req, ret, onQ, AV.isTup, isTupL, true_and, and_self, Bool.false_eq_true, List.append_nil, vw.vwL, vw, AV.free, AV.freeL, Bool.or_self]; all_goals (and_intros <;> first | exact AV.subL_refl _ | assumption | trivial | omega | rfl | (simp [AV.subL_refl]; done) | (simp; exact AV.subL_refl _) | (simp [AV.subL, AV.sub]; done))) ?_
            simp only [exOps_nil, exOps_cons, exOp_eq, nx_eq, cur_eq, stepQ, ev, lk, putT, erA, inB, opt, bnd, req, ret, onQ, ap, up, er, AV.isAgg, Kd.agg, comps, szL, csize, takeI, takeC, dropC, stP, stE, stC, stS, true_and, and_self, Nat.reduceEqDiff, Nat.reduceLT, Nat.reduceLeDiff, Nat.reduceAdd, Nat.reduceSub, Nat.sub_self, Nat.le_refl, Nat.add_zero, Nat.zero_add, if_true, if_false, reduceCtorEq, Option.bind_some, Option.map_some, List.append_nil, List.nil_append, tt_30]
            repeat (refine ⟨by omega, ?_⟩)
            refine hK _ ?_
            clear hK K
            refine W.seqK fun K hK => W.regionK tt_ok ?_
            simp only [exOps_nil, exOps_cons, exOp_eq, exCall_eq, nx_eq, cur_eq, curV_eq, evL, stepQ, ev, lk, putT, erA, inB, opt, bnd, req, ret, onQ, ap, bltQ, bltV, appQ, appV, srcQ, rowOf, Row.len, Row.sz, Row.lst, and_true, true_and, and_self, Nat.reduceEqDiff, Nat.reduceLT, Nat.reduceAdd, Nat.reduceMul, Nat.zero_le, if_true, if_false, reduceCtorEq, ne_eq, not_true_eq_false, Option.bind_some, Option.map_some, tt_5, tt_22, show c.length = 0 by rw [hc0]; rfl]
            refine Or.inl ?_
            refine hK _ ?_
            clear hK K
            refine W.seqK fun K hK => W.regionK tt_ok ?_
            simp only [exOps_cons, exOp_eq, exCall_eq, nx_eq, cur_eq, evL, stepQ, ev, lk, putT, erA, inB, opt, bnd, req, ret, onQ, ap, ldP, ldE, ldC, ldS, Kd.agg, comps, csize, takeI, takeC, dropC, true_and, and_self, Nat.reduceEqDiff, Nat.reduceLT, Nat.reduceLeDiff, Nat.reduceAdd, Nat.reduceSub, Nat.sub_self, Nat.le_refl, Nat.add_zero, if_true, if_false, reduceCtorEq, Option.bind_some, Option.map_some, tt_30]
            refine CallK.pure _ _ c19 call19 (by simp only [AV.nmIn, bnd, req, ret, onQ, AV.isTup, isTupL, true_and, and_self, Bool.false_eq_true, List.append_nil, vw.vwL, vw, AV.free, AV.freeL, Bool.or_self]; all_goals (and_intros <;> first | exact AV.subL_refl _ | assumption | trivial | omega | rfl | (simp [AV.subL_refl]; done) | (simp; exact AV.subL_refl _) | (simp [AV.subL, AV.sub]; done))) ?_
            simp only [exOps_cons, exOp_eq, exCall_eq, nx_eq, cur_eq, evL, stepQ, ev, lk, putT, erA, inB, opt, ret, onQ, ap, true_and, Nat.reduceEqDiff, Nat.reduceLT, Nat.reduceAdd, if_true, if_false, reduceCtorEq, Option.bind_some, Option.map_some]
            refine CallK.pure _ _ c16 call16 (by simp only [AV.nmIn, bnd, req, ret, onQ, AV.isTup, isTupL, true_and, and_self, Bool.false_eq_true, List.append_nil, vw.vwL, vw, AV.free, AV.freeL, Bool.or_self]; all_goals (and_intros <;> first | exact AV.subL_refl _ | assumption | trivial | omega | rfl | (simp [AV.subL_refl]; done) | (simp; exact AV.subL_refl _) | (simp [AV.subL, AV.sub]; done))) ?_
            simp only [Bool.not_true, exOps_nil, exOps_cons, exOp_eq, nx_eq, cur_eq, stepQ, ev, lk, putT, erA, inB, opt, bnd, req, ret, onQ, ap, binG, eqOp, intsOf, and_true, true_and, and_self, Nat.reduceEqDiff, Nat.reduceLT, Nat.reduceAdd, if_true, if_false, reduceCtorEq, Option.map_some, List.append_nil, tt_5, tt_24, beq_self_eq_true]
            repeat (refine ⟨by omega, ?_⟩)
            refine hK _ ?_
            clear hK K
            refine W.cond (b := false) (by simp only [ev, lk, Nat.reduceEqDiff, if_true, if_false, reduceCtorEq]) (fun h => absurd h (by simp)) (fun _ => W.skip ?_)
            simp only [thn_normal, inb_normal]
            refine hK _ ?_
            refine W.freeze ⟨[(0, .lst 1 (cs.map (.lstI .u8))), (2, .bool false), (6, .ptr 2176 0 0 1), (7, .nils), (8, .sl 4208 10 0 (k + 1)), (34, .lst 1 (cs.map (.lstI .u8))), (35, .int .i64 cs.length), (36, .int .i64 (k : Int))], [(4208, .vec 30 (.avs 10 (bl cs (k + 1)))), (2176, .obj 30 (.agg [.ints .u32 8 S2, .lstI .u8 R2, .int .u64 ((A ++ c).length : Int)]))], 8192, 92⟩ (by simp [wkF, leF, leFE, fzN, fzR, entSub, AV.sub, AV.subL, vw, vw.vwL, onQ, opt, bnd, req, ret, lk, Nm, AV.isTup, AV.nmIn, AV.nmInL, nmE, Ent.nmIn, Row.nmIn, vwL_bl, nmInL_bl, hRbc]) ?_
            refine W.swap 4208 3024 (by simp [Nm, lk]) ?_
            simp only [St.swap, tmMap, enMap, swp, AV.map, AV.mapL, Ent.map, Row.map, mapL_bl, Nat.reduceEqDiff, if_true, if_false]
            refine W.region tt_ok ?_
            simp only [exOps_nil, exOps_cons, exOp_eq, nx_eq, cur_eq, stepQ, ev, ofV, lk, putT, erA, inB, opt, bnd, req, ret, onQ, ap, binG, binF, intF, thn_normal, true_and, and_self, Nat.reduceEqDiff, Nat.reduceLT, Nat.reduceAdd, if_true, if_false, reduceCtorEq, hw1]
            have haV1 : aV 3008 (A ++ c) = .nils := if_pos hAc
            have haE1 : aE 3008 (A ++ c) = [] := if_pos hAc
            have hbV1 : bV 3024 (k + 1) = .sl 3024 10 0 (k + 1) := if_neg (by omega)
            have hbE1 : bE 3024 cs (k + 1) = [(3024, .vec 30 (.avs 10 (bl cs (k + 1))))] := if_neg (by omega)
            refine hK3 _ (k + 1) (by omega) (by omega) ?_
            simp only [hA1, haV1, haE1, hbV1, hbE1, hS2, hR2]
            simp [wkF, leF, leFE, fzN, fzR, entSub, AV.sub, AV.subL, vw, vw.vwL, onQ, opt, bnd, req, ret, lk, Nm, AV.isTup, AV.nmIn, AV.nmInL, nmE, Ent.nmIn, Row.nmIn, vwL_bl, nmInL_bl]
          · have haV : aV 3008 A = .nils := if_pos h0
            have haE : aE 3008 A = [] := if_pos h0
            have hbV : bV 3024 k = .sl 3024 10 0 k := if_neg hk0
            have hbE : bE 3024 cs k = [(3024, .vec 30 (.avs 10 (bl cs k)))] := if_neg hk0
            rw [haV, haE, hbV, hbE, List.nil_append]
            have hw : R A ++ c ≠ [] := by rw [h0]; exact hc0
            have cw := writeB_at 4272 A c (by omega) (by omega) hw
            have hra := R_app A c
            rw [← R_app] at c19
            have hAc : A ++ c = c := by rw [h0, List.nil_append]
            have ht : List.take c.length (List.drop 0 c) = c := by rw [List.drop_zero, List.take_length]
            rw [hAc, ← ht] at c16
            have hcl0 : ¬ c.length = 0 := fun h => hc0 (List.length_eq_zero_iff.1 h)
            generalize hS2 : S (A ++ c) = S2 at *
            generalize hR2 : R (A ++ c) = R2 at *
            generalize hS1 : S A = S1 at *
            generalize R A ++ c = RA at *
            generalize hR1 : R A = R1 at *
            refine W.seqK fun K hK => W.regionK tt_ok ?_
            simp only [decide_true, exOps_nil, exOps_cons, exOp_eq, nx_eq, cur_eq, stepQ, ev, lk, putT, erA, inB, opt, bnd, req, ret, onQ, ap, binG, binF, intF, true_and, and_self, Nat.reduceEqDiff, Nat.reduceLT, Nat.reduceAdd, if_true, if_false, reduceCtorEq, List.nil_append, List.cons_append, c1]
            refine hK _ ?_
            clear hK K
            refine W.seqK fun K hK => W.cond (b := true) (by simp only [ev, lk, Nat.reduceEqDiff, if_true, if_false, reduceCtorEq]) (fun _ => W.skip ?_) (fun h => absurd h (by simp))
            rw [thn_normal]
            refine hK _ ?_
            clear hK K
            refine W.seqK fun K hK => W.blockK ?_
            refine W.seqK fun K hK => W.regionK tt_ok ?_
            simp only [exOps_nil, exOps_cons, exOp_eq, nx_eq, cur_eq, stepQ, ev, lk, putT, erA, inB, opt, bnd, req, ret, onQ, ap, Kd.elem, ixA, asI, ldP, ldC, ldS, Kd.agg, comps, csize, takeI, takeC, dropC, and_true, true_and, and_self, Nat.reduceEqDiff, Nat.reduceLT, Nat.reduceLeDiff, Nat.reduceAdd, Nat.reduceSub, Nat.sub_self, Int.toNat_natCast, Nat.le_refl, if_true, if_false, Bool.false_eq_true, reduceCtorEq, Option.bind_some, Option.map_some, tt_22, tt_34, hml, he, Int.toNat_natCast]
            refine ⟨by omega, ?_⟩
            refine hK _ ?_
            clear hK K
            refine W.seqK fun K hK => W.regionK tt_ok ?_
            simp only [exOps_nil, exOps_cons, exOp_eq, exCall_eq, nx_eq, cur_eq, evL, evP, stepQ, ev, lk, putT, erA, inB, opt, bnd, req, ret, onQ, ap, up, er, AV.isTup, AV.isAgg, ldP, ldE, ldC, ldS, Kd.agg, comps, szL, csize, takeI, takeC, dropC, stC, stS, bltQ, bltV, appQ, appV, srcQ, Row.len, Row.sz, Row.take, Row.drop, Row.app, Ent.row, bldA, bslQ, zeroCs, cellsRow, chunks, ones, and_true, true_and, and_self, or_false, Nat.reduceEqDiff, Nat.reduceLT, Nat.reduceLeDiff, Nat.reduceAdd, Nat.reduceSub, Nat.reduceMul, Nat.sub_self, Nat.le_refl, Nat.add_zero, Nat.zero_add, if_true, if_false, cond_true, reduceCtorEq, Option.bind_some, Option.map_some, List.append_nil, List.nil_append, tt_30, tt_35, hfl, h1d, List.length_cons, List.length_nil, htb, hbll]
            rw [← hb1]
            repeat (refine ⟨by omega, ?_⟩)
            refine hK _ ?_
            clear hK K
            refine W.seqK fun K hK => W.regionK tt_ok ?_
            simp only [exOps_cons, exOp_eq, exCall_eq, nx_eq, cur_eq, evL, stepQ, ev, lk, putT, erA, inB, opt, bnd, req, ret, onQ, ap, ldP, ldE, ldC, ldS, Kd.agg, comps, csize, takeI, takeC, dropC, true_and, and_self, Nat.reduceEqDiff, Nat.reduceLT, Nat.reduceLeDiff, Nat.reduceAdd, Nat.reduceSub, Nat.sub_self, Nat.le_refl, Nat.add_zero, if_true, if_false, reduceCtorEq, Option.bind_some, Option.map_some, tt_30]
            refine CallK.with [] [(4272, .vec 5 (.ints .u8 RA))] _ _ cw call18 (by simp only [AV.nmIn, bnd, req, ret, onQ, AV.isTup, isTupL, true_and, and_self, Bool.false_eq_true, List.append_nil, vw.vwL, vw, AV.free, AV.freeL, Bool.or_self]; all_goals (and_intros <;> first | exact AV.subL_refl _ | assumption | trivial | omega | rfl | (simp []; done) | (simp [AV.subL, AV.sub, entsFree]; done))) (by simp [leL]) (by intro n hn; first | (left; revert hn; simp [Nm, lk]; done) | (right; revert hn; simp only [Nm, lk]; split <;> simp <;> omega)) (by simp [entsIn]) ?_
            simp only [callDel, exOps_nil, exOps_cons, exOp_eq, nx_eq, cur_eq, stepQ, ev, lk, putT, erA, inB, opt, bnd, req, ret, onQ, ap, up, er, AV.isAgg, Kd.agg, comps, szL, csize, takeI, takeC, dropC, stP, stE, stC, stS, true_and, and_self, Nat.reduceEqDiff, Nat.reduceLT, Nat.reduceLeDiff, Nat.reduceAdd, Nat.reduceSub, Nat.sub_self, Nat.le_refl, Nat.add_zero, Nat.zero_add, if_true, if_false, reduceCtorEq, Option.bind_some, Option.map_some, List.append_nil, List.nil_append, tt_30, List.map_cons, List.map_nil, List.reverse_cons, List.reverse_nil]
            repeat (refine ⟨by omega, ?_⟩)
            refine hK _ ?_
            clear hK K
            refine W.seqK fun K hK => W.regionK tt_ok ?_
            simp only [exOps_nil, exOps_cons, exOp_eq, exCall_eq, nx_eq, cur_eq, curV_eq, evL, stepQ, ev, lk, putT, erA, inB, opt, bnd, req, ret, onQ, ap, up, er, bltQ, bltV, appQ, appV, srcQ, rowOf, Row.len, Row.sz, Row.lst, and_true, true_and, and_self, Nat.reduceEqDiff, Nat.reduceLT, Nat.reduceAdd, if_true, if_false, reduceCtorEq, ne_eq, not_false_eq_true, Option.bind_some, Option.map_some, tt_5, tt_22, hcl0]
            refine Or.inl ⟨⟨by omega, by omega⟩, ?_⟩
            refine hK _ ?_
            clear hK K
            refine W.seqK fun K hK => W.regionK tt_ok ?_
            simp only [exOps_cons, exOp_eq, exCall_eq, nx_eq, cur_eq, evL, stepQ, ev, lk, putT, erA, inB, opt, bnd, req, ret, onQ, ap, ldP, ldE, ldC, ldS, Kd.agg, comps, csize, takeI, takeC, dropC, true_and, and_self, Nat.reduceEqDiff, Nat.reduceLT, Nat.reduceLeDiff, Nat.reduceAdd, Nat.reduceSub, Nat.sub_self, Nat.le_refl, Nat.add_zero, if_true, if_false, reduceCtorEq, Option.bind_some, Option.map_some, tt_30]
            refine CallK.pure _ _ c19 call19 (by simp only [Bool.or_true, Bool.or_false, AV.nmIn, lk, opt, bnd, req, ret, onQ, AV.isTup, isTupL, Ent.row, and_true, true_and, and_self, Nat.reduceEqDiff, if_true, if_false, forall_const, List.append_nil, vw.vwL, vw, viewR, AV.free, AV.freeL, Ent.row, Bool.or_self]; all_goals (and_intros <;> first | exact AV.subL_refl _ | assumption | trivial | omega | rfl | (simp [AV.subL_refl]; done) | (simp; exact AV.subL_refl _) | (simp [AV.subL, AV.sub]; done))) ?_
            simp only [exOps_cons, exOp_eq, exCall_eq, nx_eq, cur_eq, evL, stepQ, ev, lk, putT, erA, inB, opt, ret, onQ, ap, true_and, Nat.reduceEqDiff, Nat.reduceLT, Nat.reduceAdd, if_true, if_false, reduceCtorEq, Option.bind_some, Option.map_some]
            refine CallK.pure _ _ c16 call16 (by simp only [Bool.or_false, lk, opt, bnd, req, ret, onQ, AV.isTup, isTupL, Ent.row, true_and, and_self, Nat.reduceEqDiff, Nat.le_refl, Nat.zero_add, if_true, if_false, forall_const, List.append_nil, vw.vwL, vw, viewR, AV.free, AV.freeL, Ent.row, Bool.or_self]; all_goals (and_intros <;> first | exact AV.subL_refl _ | assumption | trivial | omega | rfl | (simp [AV.subL_refl]; done) | (simp; exact AV.subL_refl _) | (simp [AV.subL, AV.sub]; done))) ?_
            simp only [Bool.not_true, exOps_nil, exOps_cons, exOp_eq, nx_eq, cur_eq, stepQ, ev, lk, putT, erA, inB, opt, bnd, req, ret, onQ, ap, binG, eqOp, intsOf, and_true, true_and, and_self, Nat.reduceEqDiff, Nat.reduceLT, Nat.reduceAdd, if_true, if_false, reduceCtorEq, Option.map_some, List.append_nil, tt_5, tt_24, beq_self_eq_true]
            repeat (refine ⟨by omega, ?_⟩)
            refine hK _ ?_
            clear hK K
            refine W.cond (b := false) (by simp only [ev, lk, Nat.reduceEqDiff, if_true, if_false, reduceCtorEq]) (fun h => absurd h (by simp)) (fun _ => W.skip ?_)
            simp only [thn_normal, inb_normal]
            refine hK _ ?_
            refine W.freeze ⟨[(0, .lst 1 (cs.map (.lstI .u8))), (2, .bool false), (6, .ptr 2176 0 0 1), (7, .sl 4336 1 0 c.length), (8, .sl 4208 10 0 (k + 1)), (34, .lst 1 (cs.map (.lstI .u8))), (35, .int .i64 cs.length), (36, .int .i64 (k : Int))], [(4336, .vec 5 (.ints .u8 c)), (4208, .vec 30 (.avs 10 (bl cs (k + 1)))), (2176, .obj 30 (.agg [.ints .u32 8 S2, .lstI .u8 R2, .int .u64 ((A ++ c).length : Int)]))], 8192, 92⟩ (by simp [wkF, leF, leFE, fzN, fzR, entSub, AV.sub, AV.subL, vw, vw.vwL, viewR, onQ, opt, bnd, req, ret, lk, Nm, Ent.row, AV.isTup, AV.nmIn, AV.nmInL, nmE, Ent.nmIn, Row.nmIn, vwL_bl, nmInL_bl, hra, off_le]) ?_
            refine W.swap 4336 3008 (by simp [Nm, lk]) ?_
            refine W.swap 4208 3024 (by simp [Nm, lk, St.swap]) ?_
            simp only [St.swap, tmMap, enMap, swp, AV.map, AV.mapL, Ent.map, Row.map, mapL_bl, Nat.reduceEqDiff, if_true, if_false]
            refine W.region tt_ok ?_
            simp only [exOps_nil, exOps_cons, exOp_eq, nx_eq, cur_eq, stepQ, ev, ofV, lk, putT, erA, inB, opt, bnd, req, ret, onQ, ap, binG, binF, intF, thn_normal, true_and, and_self, Nat.reduceEqDiff, Nat.reduceLT, Nat.reduceAdd, if_true, if_false, reduceCtorEq, hw1]
            have haV1 : aV 3008 (A ++ c) = .sl 3008 1 0 c.length := by rw [hAc]; exact if_neg hc0
            have haE1 : aE 3008 (A ++ c) = [(3008, .vec 5 (.ints .u8 c))] := by rw [hAc]; exact if_neg hc0
            have hbV1 : bV 3024 (k + 1) = .sl 3024 10 0 (k + 1) := if_neg (by omega)
            have hbE1 : bE 3024 cs (k + 1) = [(3024, .vec 30 (.avs 10 (bl cs (k + 1))))] := if_neg (by omega)
            refine hK3 _ (k + 1) (by omega) (by omega) ?_
            simp only [hA1, haV1, haE1, hbV1, hbE1, hS2, hR2]
            simp [wkF, leF, leFE, fzN, fzR, entSub, AV.sub, AV.subL, vw, vw.vwL, onQ, opt, bnd, req, ret, lk, Nm, AV.isTup, AV.nmIn, AV.nmInL, nmE, Ent.nmIn, Row.nmIn, vwL_bl, nmInL_bl]
        by_cases hw : R A ++ c = []
        · have haV : aV 3008 A = .sl 3008 1 0 A.length := if_neg h0
          have haE : aE 3008 A = [(3008, .vec 5 (.ints .u8 A))] := if_neg h0
          have hbV : bV 3024 k = .sl 3024 10 0 k := if_neg hk0
          have hbE : bE 3024 cs k = [(3024, .vec 30 (.avs 10 (bl cs k)))] := if_neg hk0
          rw [haV, haE, hbV, hbE]
          have cw := writeB_no A c (by omega) hw
          have hRbc : R (A ++ c) = [] := by rw [← R_app, hw]; rfl
          rw [hRbc] at c19
          have ht : List.take (A.length + c.length) (List.drop 0 (A ++ c)) = A ++ c := by rw [List.drop_zero, ← List.length_append, List.take_length]
          have hl3 : A.length + c.length ≤ (A ++ c).length := by rw [List.length_append]; exact Nat.le_refl _
          rw [← ht] at c16
          generalize hS2 : S (A ++ c) = S2 at *
          generalize hR2 : R (A ++ c) = R2 at *
          generalize hS1 : S A = S1 at *
          generalize hR1 : R A = R1 at *
          refine W.seqK fun K hK => W.regionK tt_ok ?_
          simp only [decide_true, exOps_nil, exOps_cons, exOp_eq, nx_eq, cur_eq, stepQ, ev, lk, putT, erA, inB, opt, bnd, req, ret, onQ, ap, binG, binF, intF, true_and, and_self, Nat.reduceEqDiff, Nat.reduceLT, Nat.reduceAdd, if_true, if_false, reduceCtorEq, List.nil_append, List.cons_append, c1]
          refine hK _ ?_
          clear hK K
          refine W.seqK fun K hK => W.cond (b := true) (by simp only [ev, lk, Nat.reduceEqDiff, if_true, if_false, reduceCtorEq]) (fun _ => W.skip ?_) (fun h => absurd h (by simp))
          rw [thn_normal]
          refine hK _ ?_
          clear hK K
          refine W.seqK fun K hK => W.blockK ?_
          refine W.seqK fun K hK => W.regionK tt_ok ?_
          simp only [exOps_nil, exOps_cons, exOp_eq, nx_eq, cur_eq, stepQ, ev, lk, putT, erA, inB, opt, bnd, req, ret, onQ, ap, Kd.elem, ixA, asI, ldP, ldC, ldS, Kd.agg, comps, csize, takeI, takeC, dropC, and_true, true_and, and_self, Nat.reduceEqDiff, Nat.reduceLT, Nat.reduceLeDiff, Nat.reduceAdd, Nat.reduceSub, Nat.sub_self, Int.toNat_natCast, Nat.le_refl, if_true, if_false, Bool.false_eq_true, reduceCtorEq, Option.bind_some, Option.map_some, tt_22, tt_34, hml, he, Int.toNat_natCast]
          refine ⟨by omega, ?_⟩
          refine hK _ ?_
          clear hK K
          refine W.seqK fun K hK => W.regionK tt_ok ?_
          simp only [exOps_nil, exOps_cons, exOp_eq, exCall_eq, nx_eq, cur_eq, evL, evP, stepQ, ev, lk, putT, erA, inB, opt, bnd, req, ret, onQ, ap, up, er, AV.isTup, AV.isAgg, ldP, ldE, ldC, ldS, Kd.agg, comps, szL, csize, takeI, takeC, dropC, stC, stS, bltQ, bltV, appQ, appV, srcQ, Row.len, Row.sz, Row.take, Row.drop, Row.app, Ent.row, bldA, bslQ, zeroCs, cellsRow, chunks, ones, and_true, true_and, and_self, or_false, Nat.reduceEqDiff, Nat.reduceLT, Nat.reduceLeDiff, Nat.reduceAdd, Nat.reduceSub, Nat.reduceMul, Nat.sub_self, Nat.le_refl, Nat.add_zero, Nat.zero_add, if_true, if_false, cond_true, reduceCtorEq, Option.bind_some, Option.map_some, List.append_nil, List.nil_append, tt_30, tt_35, hfl, h1d, List.length_cons, List.length_nil, htb, hbll]
          rw [← hb1]
          repeat (refine ⟨by omega, ?_⟩)
          refine hK _ ?_
          clear hK K
          refine W.seqK fun K hK => W.regionK tt_ok ?_
          simp only [exOps_cons, exOp_eq, exCall_eq, nx_eq, cur_eq, evL, stepQ, ev, lk, putT, erA, inB, opt, bnd, req, ret, onQ, ap, ldP, ldE, ldC, ldS, Kd.agg, comps, csize, takeI, takeC, dropC, true_and, and_self, Nat.reduceEqDiff, Nat.reduceLT, Nat.reduceLeDiff, Nat.reduceAdd, Nat.reduceSub, Nat.sub_self, Nat.le_refl, Nat.add_zero, if_true, if_false, reduceCtorEq, Option.bind_some, Option.map_some, tt_30]
          refine CallK.pure _ _ cw call18 (by simp only [AV.nmIn, bnd, req, ret, onQ, AV.isTup, isTupL, true_and, and_self, Bool.false_eq_true, List.append_nil, vw.vwL, vw, AV.free, AV.freeL, Bool.or_self]; all_goals (and_intros <;> first | exact AV.subL_refl _ | assumption | trivial | omega | rfl | (simp [AV.subL_refl]; done) | (simp; exact AV.subL_refl _) | (simp [AV.subL, AV.sub]; done))) ?_
          simp only [exOps_nil, exOps_cons, exOp_eq, nx_eq, cur_eq, stepQ, ev, lk, putT, erA, inB, opt, bnd, req, ret, onQ, ap, up, er, AV.isAgg, Kd.agg, comps, szL, csize, takeI, takeC, dropC, stP, stE, stC, stS, true_and, and_self, Nat.reduceEqDiff, Nat.reduceLT, Nat.reduceLeDiff, Nat.reduceAdd, Nat.reduceSub, Nat.sub_self, Nat.le_refl, Nat.add_zero, Nat.zero_add, if_true, if_false, reduceCtorEq, Option.bind_some, Option.map_some, List.append_nil, List.nil_append, tt_30]
          repeat (refine ⟨by omega, ?_⟩)
          refine hK _ ?_
          clear hK K
          refine W.seqK fun K hK => W.regionK tt_ok ?_
          simp only [exOps_nil, exOps_cons, exOp_eq, exCall_eq, nx_eq, cur_eq, evL, stepQ, ev, lk, putT, erA, inB, opt, bnd, req, ret, onQ, ap, up, er, bltQ, bltV, appQ, appV, srcQ, rowOf, Row.len, Row.sz, Row.take, Row.app, and_true, true_and, and_self, or_false, Nat.reduceEqDiff, Nat.reduceLT, Nat.reduceAdd, Nat.le_refl, if_true, if_false, reduceCtorEq, Option.bind_some, Option.map_some, tt_5, tt_22, List.take_length]
          repeat (refine ⟨by omega, ?_⟩)
          refine hK _ ?_
          clear hK K
          refine W.seqK fun K hK => W.regionK tt_ok ?_
          simp only [exOps_cons, exOp_eq, exCall_eq, nx_eq, cur_eq, evL, stepQ, ev, lk, putT, erA, inB, opt, bnd, req, ret, onQ, ap, ldP, ldE, ldC, ldS, Kd.agg, comps, csize, takeI, takeC, dropC, true_and, and_self, Nat.reduceEqDiff, Nat.reduceLT, Nat.reduceLeDiff, Nat.reduceAdd, Nat.reduceSub, Nat.sub_self, Nat.le_refl, Nat.add_zero, if_true, if_false, reduceCtorEq, Option.bind_some, Option.map_some, tt_30]
          refine CallK.pure _ _ c19 call19 (by simp only [AV.nmIn, bnd, req, ret, onQ, AV.isTup, isTupL, true_and, and_self, Bool.false_eq_true, List.append_nil, vw.vwL, vw, AV.free, AV.freeL, Bool.or_self]; all_goals (and_intros <;> first | exact AV.subL_refl _ | assumption | trivial | omega | rfl | (simp [AV.subL_refl]; done) | (simp; exact AV.subL_refl _) | (simp [AV.subL, AV.sub]; done))) ?_
          simp only [exOps_cons, exOp_eq, exCall_eq, nx_eq, cur_eq, evL, stepQ, ev, lk, putT, erA, inB, opt, ret, onQ, ap, true_and, Nat.reduceEqDiff, Nat.reduceLT, Nat.reduceAdd, if_true, if_false, reduceCtorEq, Option.bind_some, Option.map_some]
          refine CallK.pure _ _ c16 call16 (by simp only [Bool.or_false, lk, opt, bnd, req, ret, onQ, AV.isTup, isTupL, Ent.row, and_true, true_and, and_self, Nat.reduceEqDiff, Nat.zero_add, if_true, if_false, forall_const, List.append_nil, vw.vwL, vw, viewR, AV.free, AV.freeL, Ent.row, Bool.or_self]; all_goals (and_intros <;> first | exact AV.subL_refl _ | assumption | trivial | omega | rfl | (simp [AV.subL_refl]; done) | (simp; exact AV.subL_refl _) | (simp [AV.subL, AV.sub]; done))) ?_
          simp only [Bool.not_true, exOps_nil, exOps_cons, exOp_eq, nx_eq, cur_eq, stepQ, ev, lk, putT, erA, inB, opt, bnd, req, ret, onQ, ap, binG, eqOp, intsOf, and_true, true_and, and_self, Nat.reduceEqDiff, Nat.reduceLT, Nat.reduceAdd, if_true, if_false, reduceCtorEq, Option.map_some, List.append_nil, tt_5, tt_24, beq_self_eq_true]
          repeat (refine ⟨by omega, ?_⟩)
          refine hK _ ?_
          clear hK K
          refine W.cond (b := false) (by simp only [ev, lk, Nat.reduceEqDiff, if_true, if_false, reduceCtorEq]) (fun h => absurd h (by simp)) (fun _ => W.skip ?_)
          simp only [thn_normal, inb_normal]
          refine hK _ ?_
          refine W.freeze ⟨[(0, .lst 1 (cs.map (.lstI .u8))), (2, .bool false), (6, .ptr 2176 0 0 1), (7, .sl 4336 1 0 (A.length + c.length)), (8, .sl 4208 10 0 (k + 1)), (34, .lst 1 (cs.map (.lstI .u8))), (35, .int .i64 cs.length), (36, .int .i64 (k : Int))], [(4336, .vec 5 (.ints .u8 (A ++ c))), (4208, .vec 30 (.avs 10 (bl cs (k + 1)))), (2176, .obj 30 (.agg [.ints .u32 8 S2, .lstI .u8 R2, .int .u64 ((A ++ c).length : Int)]))], 8192, 92⟩ (by simp [wkF, leF, leFE, fzN, fzR, entSub, AV.sub, AV.subL, vw, vw.vwL, onQ, opt, bnd, req, ret, lk, Nm, AV.isTup, AV.nmIn, AV.nmInL, nmE, Ent.nmIn, Row.nmIn, vwL_bl, nmInL_bl, hRbc]) ?_
          refine W.swap 4336 3008 (by simp [Nm, lk]) ?_
          refine W.swap 4208 3024 (by simp [Nm, lk, St.swap]) ?_
          simp only [St.swap, tmMap, enMap, swp, AV.map, AV.mapL, Ent.map, Row.map, mapL_bl, Nat.reduceEqDiff, if_true, if_false]
          refine W.region tt_ok ?_
          simp only [exOps_nil, exOps_cons, exOp_eq, nx_eq, cur_eq, stepQ, ev, ofV, lk, putT, erA, inB, opt, bnd, req, ret, onQ, ap, binG, binF, intF, thn_normal, true_and, and_self, Nat.reduceEqDiff, Nat.reduceLT, Nat.reduceAdd, if_true, if_false, reduceCtorEq, hw1]
          have hne : A ++ c ≠ [] := fun h => h0 (List.append_eq_nil_iff.1 h).1
          have haV1 : aV 3008 (A ++ c) = .sl 3008 1 0 (A.length + c.length) := by rw [aV, if_neg hne, List.length_append]
          have haE1 : aE 3008 (A ++ c) = [(3008, .vec 5 (.ints .u8 (A ++ c)))] := if_neg hne
          have hbV1 : bV 3024 (k + 1) = .sl 3024 10 0 (k + 1) := if_neg (by omega)
          have hbE1 : bE 3024 cs (k + 1) = [(3024, .vec 30 (.avs 10 (bl cs (k + 1))))] := if_neg (by omega)
          refine hK3 _ (k + 1) (by omega) (by omega) ?_
          simp only [hA1, haV1, haE1, hbV1, hbE1, hS2, hR2]
          simp [wkF, leF, leFE, fzN, fzR, entSub, AV.sub, AV.subL, vw, vw.vwL, onQ, opt, bnd, req, ret, lk, Nm, AV.isTup, AV.nmIn, AV.nmInL, nmE, Ent.nmIn, Row.nmIn, vwL_bl, nmInL_bl]
        · have haV : aV 3008 A = .sl 3008 1 0 A.length := if_neg h0
          have haE : aE 3008 A = [(3008, .vec 5 (.ints .u8 A))] := if_neg h0
          have hbV : bV 3024 k = .sl 3024 10 0 k := if_neg hk0
          have hbE : bE 3024 cs k = [(3024, .vec 30 (.avs 10 (bl cs k)))] := if_neg hk0
          rw [haV, haE, hbV, hbE]
          have cw := writeB_at 4272 A c (by omega) (by omega) hw
          have hra := R_app A c
          rw [← R_app] at c19
          have ht : List.take (A.length + c.length) (List.drop 0 (A ++ c)) = A ++ c := by rw [List.drop_zero, ← List.length_append, List.take_length]
          have hl3 : A.length + c.length ≤ (A ++ c).length := by rw [List.length_append]; exact Nat.le_refl _
          rw [← ht] at c16
          generalize hS2 : S (A ++ c) = S2 at *
          generalize hR2 : R (A ++ c) = R2 at *
          generalize hS1 : S A = S1 at *
          generalize R A ++ c = RA at *
          generalize hR1 : R A = R1 at *
          refine W.seqK fun K hK => W.regionK tt_ok ?_
          simp only [decide_true, exOps_nil, exOps_cons, exOp_eq, nx_eq, cur_eq, stepQ, ev, lk, putT, erA, inB, opt, bnd, req, ret, onQ, ap, binG, binF, intF, true_and, and_self, Nat.reduceEqDiff, Nat.reduceLT, Nat.reduceAdd, if_true, if_false, reduceCtorEq, List.nil_append, List.cons_append, c1]
          refine hK _ ?_
          clear hK K
          refine W.seqK fun K hK => W.cond (b := true) (by simp only [ev, lk, Nat.reduceEqDiff, if_true, if_false, reduceCtorEq]) (fun _ => W.skip ?_) (fun h => absurd h (by simp))
          rw [thn_normal]
          refine hK _ ?_
          clear hK K
          refine W.seqK fun K hK => W.blockK ?_
          refine W.seqK fun K hK => W.regionK tt_ok ?_
          simp only [exOps_nil, exOps_cons, exOp_eq, nx_eq, cur_eq, stepQ, ev, lk, putT, erA, inB, opt, bnd, req, ret, onQ, ap, Kd.elem, ixA, asI, ldP, ldC, ldS, Kd.agg, comps, csize, takeI, takeC, dropC, and_true, true_and, and_self, Nat.reduceEqDiff, Nat.reduceLT, Nat.reduceLeDiff, Nat.reduceAdd, Nat.reduceSub, Nat.sub_self, Int.toNat_natCast, Nat.le_refl, if_true, if_false, Bool.false_eq_true, reduceCtorEq, Option.bind_some, Option.map_some, tt_22, tt_34, hml, he, Int.toNat_natCast]
          refine ⟨by omega, ?_⟩
          refine hK _ ?_
          clear hK K
          refine W.seqK fun K hK => W.regionK tt_ok ?_
          simp only [exOps_nil, exOps_cons, exOp_eq, exCall_eq, nx_eq, cur_eq, evL, evP, stepQ, ev, lk, putT, erA, inB, opt, bnd, req, ret, onQ, ap, up, er, AV.isTup, AV.isAgg, ldP, ldE, ldC, ldS, Kd.agg, comps, szL, csize, takeI, takeC, dropC, stC, stS, bltQ, bltV, appQ, appV, srcQ, Row.len, Row.sz, Row.take, Row.drop, Row.app, Ent.row, bldA, bslQ, zeroCs, cellsRow, chunks, ones, and_true, true_and, and_self, or_false, Nat.reduceEqDiff, Nat.reduceLT, Nat.reduceLeDiff, Nat.reduceAdd, Nat.reduceSub, Nat.reduceMul, Nat.sub_self, Nat.le_refl, Nat.add_zero, Nat.zero_add, if_true, if_false, cond_true, reduceCtorEq, Option.bind_some, Option.map_some, List.append_nil, List.nil_append, tt_30, tt_35, hfl, h1d, List.length_cons, List.length_nil, htb, hbll]
          rw [← hb1]
          repeat (refine ⟨by omega, ?_⟩)
          refine hK _ ?_
          clear hK K
          refine W.seqK fun K hK => W.regionK tt_ok ?_
          simp only [exOps_cons, exOp_eq, exCall_eq, nx_eq, cur_eq, evL, stepQ, ev, lk, putT, erA, inB, opt, bnd, req, ret, onQ, ap, ldP, ldE, ldC, ldS, Kd.agg, comps, csize, takeI, takeC, dropC, true_and, and_self, Nat.reduceEqDiff, Nat.reduceLT, Nat.reduceLeDiff, Nat.reduceAdd, Nat.reduceSub, Nat.sub_self, Nat.le_refl, Nat.add_zero, if_true, if_false, reduceCtorEq, Option.bind_some, Option.map_some, tt_30]
          refine CallK.with [] [(4272, .vec 5 (.ints .u8 RA))] _ _ cw call18 (by simp only [AV.nmIn, bnd, req, ret, onQ, AV.isTup, isTupL, true_and, and_self, Bool.false_eq_true, List.append_nil, vw.vwL, vw, AV.free, AV.freeL, Bool.or_self]; all_goals (and_intros <;> first | exact AV.subL_refl _ | assumption | trivial | omega | rfl | (simp []; done) | (simp [AV.subL, AV.sub, entsFree]; done))) (by simp [leL]) (by intro n hn; first | (left; revert hn; simp [Nm, lk]; done) | (right; revert hn; simp only [Nm, lk]; split <;> simp <;> omega)) (by simp [entsIn]) ?_
          simp only [callDel, exOps_nil, exOps_cons, exOp_eq, nx_eq, cur_eq, stepQ, ev, lk, putT, erA, inB, opt, bnd, req, ret, onQ, ap, up, er, AV.isAgg, Kd.agg, comps, szL, csize, takeI, takeC, dropC, stP, stE, stC, stS, true_and, and_self, Nat.reduceEqDiff, Nat.reduceLT, Nat.reduceLeDiff, Nat.reduceAdd, Nat.reduceSub, Nat.sub_self, Nat.le_refl, Nat.add_zero, Nat.zero_add, if_true, if_false, reduceCtorEq, Option.bind_some, Option.map_some, List.append_nil, List.nil_append, tt_30, List.map_cons, List.map_nil, List.reverse_cons, List.reverse_nil]
          repeat (refine ⟨by omega, ?_⟩)
          refine hK _ ?_
          clear hK K
          refine W.seqK fun K hK => W.regionK tt_ok ?_
          simp only [exOps_nil, exOps_cons, exOp_eq, exCall_eq, nx_eq, cur_eq, evL, stepQ, ev, lk, putT, erA, inB, opt, bnd, req, ret, onQ, ap, up, er, bltQ, bltV, appQ, appV, srcQ, rowOf, Row.len, Row.sz, Row.take, Row.app, and_true, true_and, and_self, or_false, Nat.reduceEqDiff, Nat.reduceLT, Nat.reduceAdd, Nat.le_refl, if_true, if_false, reduceCtorEq, Option.bind_some, Option.map_some, tt_5, tt_22, List.take_length]
          repeat (refine ⟨by omega, ?_⟩)
          refine hK _ ?_
          clear hK K
          refine W.seqK fun K hK => W.regionK tt_ok ?_
          simp only [exOps_cons, exOp_eq, exCall_eq, nx_eq, cur_eq, evL, stepQ, ev, lk, putT, erA, inB, opt, bnd, req, ret, onQ, ap, ldP, ldE, ldC, ldS, Kd.agg, comps, csize, takeI, takeC, dropC, true_and, and_self, Nat.reduceEqDiff, Nat.reduceLT, Nat.reduceLeDiff, Nat.reduceAdd, Nat.reduceSub, Nat.sub_self, Nat.le_refl, Nat.add_zero, if_true, if_false, reduceCtorEq, Option.bind_some, Option.map_some, tt_30]
          refine CallK.pure _ _ c19 call19 (by simp only [Bool.or_true, Bool.or_false, AV.nmIn, lk, opt, bnd, req, ret, onQ, AV.isTup, isTupL, Ent.row, and_true, true_and, and_self, Nat.reduceEqDiff, if_true, if_false, forall_const, List.append_nil, vw.vwL, vw, viewR, AV.free, AV.freeL, Ent.row, Bool.or_self]; all_goals (and_intros <;> first | exact AV.subL_refl _ | assumption | trivial | omega | rfl | (simp [AV.subL_refl]; done) | (simp; exact AV.subL_refl _) | (simp [AV.subL, AV.sub]; done))) ?_
          simp only [exOps_cons, exOp_eq, exCall_eq, nx_eq, cur_eq, evL, stepQ, ev, lk, putT, erA, inB, opt, ret, onQ, ap, true_and, Nat.reduceEqDiff, Nat.reduceLT, Nat.reduceAdd, if_true, if_false, reduceCtorEq, Option.bind_some, Option.map_some]
          refine CallK.pure _ _ c16 call16 (by simp only [Bool.or_false, lk, opt, bnd, req, ret, onQ, AV.isTup, isTupL, Ent.row, and_true, true_and, and_self, Nat.reduceEqDiff, Nat.zero_add, if_true, if_false, forall_const, List.append_nil, vw.vwL, vw, viewR, AV.free, AV.freeL, Ent.row, Bool.or_self]; all_goals (and_intros <;> first | exact AV.subL_refl _ | assumption | trivial | omega | rfl | (simp [AV.subL_refl]; done) | (simp; exact AV.subL_refl _) | (simp [AV.subL, AV.sub]; done))) ?_
          simp only [Bool.not_true, exOps_nil, exOps_cons, exOp_eq, nx_eq, cur_eq, stepQ, ev, lk, putT, erA, inB, opt, bnd, req, ret, onQ, ap, binG, eqOp, intsOf, and_true, true_and, and_self, Nat.reduceEqDiff, Nat.reduceLT, Nat.reduceAdd, if_true, if_false, reduceCtorEq, Option.map_some, List.append_nil, tt_5, tt_24, beq_self_eq_true]
          repeat (refine ⟨by omega, ?_⟩)
          refine hK _ ?_
          clear hK K
          refine W.cond (b := false) (by simp only [ev, lk, Nat.reduceEqDiff, if_true, if_false, reduceCtorEq]) (fun h => absurd h (by simp)) (fun _ => W.skip ?_)
          simp only [thn_normal, inb_normal]
          refine hK _ ?_
          refine W.freeze ⟨[(0, .lst 1 (cs.map (.lstI .u8))), (2, .bool false), (6, .ptr 2176 0 0 1), (7, .sl 4336 1 0 (A.length + c.length)), (8, .sl 4208 10 0 (k + 1)), (34, .lst 1 (cs.map (.lstI .u8))), (35, .int .i64 cs.length), (36, .int .i64 (k : Int))], [(4336, .vec 5 (.ints .u8 (A ++ c))), (4208, .vec 30 (.avs 10 (bl cs (k + 1)))), (2176, .obj 30 (.agg [.ints .u32 8 S2, .lstI .u8 R2, .int .u64 ((A ++ c).length : Int)]))], 8192, 92⟩ (by simp [wkF, leF, leFE, fzN, fzR, entSub, AV.sub, AV.subL, vw, vw.vwL, viewR, onQ, opt, bnd, req, ret, lk, Nm, Ent.row, AV.isTup, AV.nmIn, AV.nmInL, nmE, Ent.nmIn, Row.nmIn, vwL_bl, nmInL_bl, hra, off_le]) ?_
          refine W.swap 4336 3008 (by simp [Nm, lk]) ?_
          refine W.swap 4208 3024 (by simp [Nm, lk, St.swap]) ?_
          simp only [St.swap, tmMap, enMap, swp, AV.map, AV.mapL, Ent.map, Row.map, mapL_bl, Nat.reduceEqDiff, if_true, if_false]
          refine W.region tt_ok ?_
          simp only [exOps_nil, exOps_cons, exOp_eq, nx_eq, cur_eq, stepQ, ev, ofV, lk, putT, erA, inB, opt, bnd, req, ret, onQ, ap, binG, binF, intF, thn_normal, true_and, and_self, Nat.reduceEqDiff, Nat.reduceLT, Nat.reduceAdd, if_true, if_false, reduceCtorEq, hw1]
          have hne : A ++ c ≠ [] := fun h => h0 (List.append_eq_nil_iff.1 h).1
          have haV1 : aV 3008 (A ++ c) = .sl 3008 1 0 (A.length + c.length) := by rw [aV, if_neg hne, List.length_append]
          have haE1 : aE 3008 (A ++ c) = [(3008, .vec 5 (.ints .u8 (A ++ c)))] := if_neg hne
          have hbV1 : bV 3024 (k + 1) = .sl 3024 10 0 (k + 1) := if_neg (by omega)
          have hbE1 : bE 3024 cs (k + 1) = [(3024, .vec 30 (.avs 10 (bl cs (k + 1))))] := if_neg (by omega)
          refine hK3 _ (k + 1) (by omega) (by omega) ?_
          simp only [hA1, haV1, haE1, hbV1, hbE1, hS2, hR2]
          simp [wkF, leF, leFE, fzN, fzR, entSub, AV.sub, AV.subL, vw, vw.vwL, onQ, opt, bnd, req, ret, lk, Nm, AV.isTup, AV.nmIn, AV.nmInL, nmE, Ent.nmIn, Row.nmIn, vwL_bl, nmInL_bl]
      have hk' : k = cs.length := by omega
      subst hk'
      have c1 : ¬ ((cs.length : Int) < cs.length) := by omega
      by_cases hn0 : cs.length = 0
      · have haV : aV 3008 (Ak cs cs.length) = .nils := by rw [hn0]; rfl
        have haE : aE 3008 (Ak cs cs.length) = [] := by rw [hn0]; rfl
        have hbV : bV 3024 cs.length = .nils := by rw [hn0]; rfl
        have hbE : bE 3024 cs cs.length = [] := by rw [hn0]; rfl
        rw [haV, haE, hbV, hbE, List.nil_append, List.nil_append]
        refine W.seqK fun K hK => W.regionK tt_ok ?_
        simp only [decide_false, exOps_nil, exOps_cons, exOp_eq, nx_eq, cur_eq, stepQ, ev, lk, putT, erA, inB, opt, bnd, req, ret, onQ, ap, binG, binF, intF, true_and, and_self, Nat.reduceEqDiff, Nat.reduceLT, Nat.reduceAdd, if_true, if_false, reduceCtorEq, c1]
        refine hK _ ?_
        clear hK K
        refine W.seqK fun K hK => W.cond (b := false) (by simp only [ev, lk, Nat.reduceEqDiff, if_true, if_false, reduceCtorEq]) (fun h => absurd h (by simp)) (fun _ => W.exit ?_)
        simp only [thn_normal, thn_exit, inb_exit, if_true]
        refine hKw _ ?_
        refine W.seqK fun K hK => W.regionK tt_ok ?_
        simp only [exOps_nil, exOps_cons, exOp_eq, nx_eq, cur_eq, stepQ, ev, ofV, putT, erA, inB, opt, ret, onQ, ap, true_and, Nat.reduceEqDiff, Nat.reduceLT, Nat.reduceAdd, if_false, reduceCtorEq]
        refine hK _ ?_
        clear hK K
        refine W.seqK fun Kv hKv => ?_
        refine W.seqK fun K hK => W.regionK tt_ok ?_
        simp only [exOps_nil, exOps_cons, exOp_eq, exCall_eq, nx_eq, cur_eq, evL, stepQ, ev, ofV, lk, putT, erA, inB, opt, bnd, req, ret, onQ, ap, bltQ, bltV, lenF, true_and, and_self, or_false, Nat.reduceEqDiff, Nat.reduceLT, Nat.reduceAdd, if_true, if_false, reduceCtorEq, List.getElem?_cons_zero, Option.bind_some, Option.map_some, tt_34, hml]
        refine hK _ ?_
        clear hK K
        refine W.blockK ?_
        refine W.loopF (fun k : Nat => k ≤ 0) (fun k => ⟨[(2, .bool false), (57, .int .i64 cs.length), (58, .int .i64 0)], [], 4096, 92⟩) (fun k => 0 - k) 0 (by simp) (by simp [wkF, leF, leFE, AV.sub, vw, onQ, opt, req, ret, lk, AV.isTup, AV.nmIn, nmE]) ?_
        intro k2 hk2 K4 hK4
        have c2 : ¬ ((0 : Int) < cs.length) := by omega
        refine W.seqK fun K hK => W.regionK tt_ok ?_
        simp only [decide_false, exOps_nil, exOps_cons, exOp_eq, nx_eq, cur_eq, stepQ, ev, lk, putT, erA, inB, opt, bnd, req, ret, onQ, ap, binG, binF, intF, true_and, and_self, Nat.reduceEqDiff, Nat.reduceLT, Nat.reduceAdd, if_true, if_false, c2]
        refine hK _ ?_
        clear hK K
        refine W.seqK fun K hK => W.cond (b := false) (by simp only [ev, lk, Nat.reduceEqDiff, if_true, if_false]) (fun h => absurd h (by simp)) (fun _ => W.exit ?_)
        simp only [thn_normal, thn_exit, inb_exit, if_true]
        refine hKv _ ?_
        refine W.seqK fun K hK => W.regionK tt_ok ?_
        simp only [exOps_nil, exOps_cons, exOp_eq, nx_eq, cur_eq, stepQ, ev, ofV, putT, erA, inB, opt, ret, onQ, ap, true_and, Nat.reduceEqDiff, Nat.reduceLT, Nat.reduceAdd, if_true, if_false]
        refine hK _ ?_
        clear hK K
        refine W.ret ?_
        simp only [fin_ret, finB, resQ, resV, leL, AV.nmIn, entsIn, lk, opt, bnd, req, ret, onQ, AV.isTup, and_self, Nat.reduceEqDiff, if_true, if_false]
      have hbV : bV 3024 cs.length = .sl 3024 10 0 cs.length := if_neg hn0
      have hbE : bE 3024 cs cs.length = [(3024, .vec 30 (.avs 10 (bl cs cs.length)))] := if_neg hn0
      rw [hbV, hbE]
      refine W.freeze ⟨[(0, .lst 1 (cs.map (.lstI .u8))), (2, .bool false), (7, .lstI .u8 (Ak cs cs.length)), (8, .sl 3024 10 0 cs.length), (35, .int .i64 cs.length), (36, .int .i64 cs.length)], [(3024, .vec 30 (.avs 10 (bl cs cs.length)))], 4096, 92⟩ (by by_cases h0 : Ak cs cs.length = [] <;> simp [wkF, leF, leFE, fzN, fzR, entSub, AV.sub, vw, viewR, onQ, opt, bnd, req, ret, lk, Ent.row, AV.isTup, AV.nmIn, nmE, Ent.nmIn, Row.nmIn, aV, aE, h0, vwL_bl, nmInL_bl]) ?_
      refine W.seqK fun K hK => W.regionK tt_ok ?_
      simp only [decide_false, exOps_nil, exOps_cons, exOp_eq, nx_eq, cur_eq, stepQ, ev, lk, putT, erA, inB, opt, bnd, req, ret, onQ, ap, binG, binF, intF, true_and, and_self, Nat.reduceEqDiff, Nat.reduceLT, Nat.reduceAdd, if_true, if_false, reduceCtorEq, c1]
      refine hK _ ?_
      clear hK K
      refine W.seqK fun K hK => W.cond (b := false) (by simp only [ev, lk, Nat.reduceEqDiff, if_true, if_false, reduceCtorEq]) (fun h => absurd h (by simp)) (fun _ => W.exit ?_)
      simp only [thn_normal, thn_exit, inb_exit, if_true]
      refine hKw _ ?_
      refine W.seqK fun K hK => W.regionK tt_ok ?_
      simp only [exOps_nil, exOps_cons, exOp_eq, nx_eq, cur_eq, stepQ, ev, ofV, putT, erA, inB, opt, ret, onQ, ap, true_and, Nat.reduceEqDiff, Nat.reduceLT, Nat.reduceAdd, if_false, reduceCtorEq]
      refine hK _ ?_
      clear hK K
      refine W.seqK fun Kv hKv => ?_
      refine W.seqK fun K hK => W.regionK tt_ok ?_
      simp only [exOps_nil, exOps_cons, exOp_eq, exCall_eq, nx_eq, cur_eq, evL, stepQ, ev, ofV, lk, putT, erA, inB, opt, bnd, req, ret, onQ, ap, bltQ, bltV, lenF, true_and, and_self, or_false, Nat.reduceEqDiff, Nat.reduceLT, Nat.reduceAdd, if_true, if_false, reduceCtorEq, List.getElem?_cons_zero, Option.bind_some, Option.map_some, tt_34, hml]
      refine hK _ ?_
      clear hK K
      refine W.blockK ?_
      refine W.loopF (fun k : Nat => k ≤ cs.length) (fun k => ⟨[(2, .bool false), (7, .lstI .u8 (Ak cs cs.length)), (8, .sl 3024 10 0 cs.length), (11, .int .i64 ((Ak cs k).length : Int)), (56, .lst 1 (cs.map (.lstI .u8))), (57, .int .i64 cs.length), (58, .int .i64 (k : Int))], [(3024, .vec 30 (.avs 10 (bl cs cs.length)))], 8192, 92⟩) (fun k => cs.length - k) 0 (by simp) (by simp [wkF, leF, leFE, fzN, fzR, entSub, AV.sub, vw, onQ, opt, bnd, req, ret, lk, AV.isTup, AV.nmIn, nmE, Ent.nmIn, Row.nmIn, vwL_bl, nmInL_bl, Ak]) ?_
      intro k2 hk2 K4 hK4
      by_cases hlt2 : k2 < cs.length
      · have c2 : (k2 : Int) < cs.length := by omega
        have he : (cs.map (AV.lstI .u8)).getD k2 default = .lstI .u8 cs[k2] := by simp [List.getD_eq_getElem?_getD, hlt2]
        have hge : cs.getD k2 [] = cs[k2] := by simp [List.getD_eq_getElem?_getD, hlt2]
        have hA1 : Ak cs (k2 + 1) = Ak cs k2 ++ cs[k2] := by rw [Ak, hge]
        have hle := Ak_le cs cs.length (k2 + 1) (by omega)
        rw [hA1, List.length_append] at hle
        have hA2 : IntKind.i64.wrap (((Ak cs k2).length : Int) + (cs[k2].length : Int)) = ((Ak cs (k2 + 1)).length : Int) := by
          rw [hA1, List.length_append, IntKind.wrap_i64]; omega
        have hw1 := wrap_up k2 (by omega)
        have htk := Ak_take cs cs.length k2 hk2
        have hdr := Ak_drop cs cs.length k2 hk2
        have hgt : (bl cs cs.length).getD k2 default = .agg [.ints .u32 8 (S (Ak cs k2)), .lstI .u8 (R (Ak cs k2)), .int .u64 ((Ak cs k2).length : Int)] := bl_get cs cs.length k2 hlt2
        have hbl := bl_len cs cs.length
        have c19a := sumB_fn (Ak cs k2)
        have c16a := sum_fn (Ak cs k2) (by omega)
        have c19b := sumB_fn (Ak cs cs.length)
        have c16b := sum_fn (Ak cs cs.length) (by omega)
        have hD1 := dig_len (Ak cs k2)
        have hD2 := dig_len (Ak cs cs.length)
        have hpq := List.length_drop (l := Ak cs cs.length) (i := (Ak cs k2).length)
        by_cases hw : R (Ak cs k2) ++ (Ak cs cs.length).drop (Ak cs k2).length = []
        · have cw := writeB_no (Ak cs k2) ((Ak cs cs.length).drop (Ak cs k2).length) (by omega) hw
          have hRbc : R (Ak cs cs.length) = [] := by rw [← hdr, ← R_app, hw]; rfl
          rw [hRbc] at c19b
          rw [hdr] at cw
          generalize dig (Ak cs k2) = D1 at *
          generalize dig (Ak cs cs.length) = D2 at *
          refine W.seqK fun K hK => W.regionK tt_ok ?_
          simp only [decide_true, exOps_nil, exOps_cons, exOp_eq, nx_eq, cur_eq, stepQ, ev, lk, putT, erA, inB, opt, bnd, req, ret, onQ, ap, binG, binF, intF, true_and, and_self, Nat.reduceEqDiff, Nat.reduceLT, Nat.reduceAdd, if_true, if_false, c2]
          refine hK _ ?_
          clear hK K
          refine W.seqK fun K hK => W.cond (b := true) (by simp only [ev, lk, Nat.reduceEqDiff, if_true, if_false]) (fun _ => W.skip ?_) (fun h => absurd h (by simp))
          rw [thn_normal]
          refine hK _ ?_
          clear hK K
          refine W.seqK fun K hK => W.blockK ?_
          refine W.seqK fun K hK => W.regionK tt_ok ?_
          simp only [exOps_nil, exOps_cons, exOp_eq, nx_eq, cur_eq, stepQ, ev, lk, putT, erA, inB, opt, bnd, req, ret, onQ, ap, Kd.elem, ixA, asI, ldP, ldC, ldS, Kd.agg, comps, csize, takeI, takeC, dropC, and_true, true_and, and_self, Nat.reduceEqDiff, Nat.reduceLT, Nat.reduceLeDiff, Nat.reduceAdd, Nat.reduceSub, Nat.sub_self, Int.toNat_natCast, Nat.le_refl, if_true, if_false, Bool.false_eq_true, reduceCtorEq, Option.bind_some, Option.map_some, tt_22, tt_34, hml, he, Int.toNat_natCast]
          refine ⟨by omega, ?_⟩
          refine hK _ ?_
          clear hK K
          refine W.seqK fun Kq hKq => ?_
          refine W.seqK fun K hK => W.drawK [⟨0, false, []⟩, ⟨0, false, []⟩, ⟨0, false, [0, 1]⟩, ⟨0, false, [0, 1, 2]⟩, ⟨0, false, [0, 1, 2, 3]⟩, ⟨0, false, []⟩, ⟨0, false, []⟩, ⟨0, false, [5, 6]⟩, ⟨0, false, [0, 1, 2, 3, 4, 5, 6, 7]⟩, ⟨0, false, [0, 1, 2, 3, 4, 5, 6, 7, 8]⟩, ⟨0, false, [0, 1, 2, 3, 4, 5, 6, 7, 8, 9]⟩, ⟨0, false, [0, 1, 2, 3, 4, 5, 6, 7, 8, 9, 10]⟩, ⟨0, false, [0, 1, 2, 3, 4, 5, 6, 7, 8, 9, 10]⟩, ⟨0, false, [0, 1, 2, 3, 4, 5, 6, 7, 8, 9, 10, 11, 12]⟩, ⟨0, false, [0, 1, 2, 3, 4, 5, 6, 7, 8, 9, 10, 11, 12, 13]⟩, ⟨0, false, [0, 1, 2, 3, 4, 5, 6, 7, 8, 9, 10]⟩, ⟨0, false, [0, 1, 2, 3, 4, 5, 6, 7, 8, 9, 10]⟩, ⟨0, false, [0, 1, 2, 3, 4, 5, 6, 7, 8, 9, 10, 15, 16]⟩, ⟨1, false, [0, 1, 2, 3, 4, 5, 6, 7, 8, 9, 10, 11, 12, 13, 14, 15, 16, 17]⟩, ⟨0, false, [0, 1, 2, 3, 4, 5, 6, 7, 8, 9, 10, 11, 12, 13, 14, 15, 16, 17, 18]⟩, ⟨0, false, [0, 1, 2, 3, 4, 5, 6, 7, 8, 9, 10]⟩, ⟨0, false, [0, 1, 2, 3, 4, 5, 6, 7, 8, 9, 10, 11, 12, 13, 14, 15, 16, 17, 18, 19, 20]⟩, ⟨0, false, [0, 1, 2, 3, 4, 5, 6, 7, 8, 9, 10, 11, 12, 13, 14, 15, 16, 17, 18, 19, 20, 21]⟩, ⟨0, false, [0, 1, 2, 3, 4, 5, 6, 7, 8, 9, 10, 11, 12, 13, 14, 15, 16, 17, 18, 19, 20, 21, 22]⟩] mix tt_ok (by kernel_rfl) ?_
          simp only [exOp_eq, exCall_eq, exD_cons, nxD_eq, cur_eq, flI, ownB, evL, stepQ, ev, lk, putT, erA, inB, opt, bnd, req, ret, onQ, ap, Kd.elem, ixA, asI, ldP, ldE, ldC, ldS, Kd.agg, comps, csize, takeI, takeC, dropC, and_true, true_and, and_self, Nat.reduceEqDiff, Nat.reduceLT, Nat.reduceLeDiff, Nat.reduceAdd, Nat.reduceSub, Nat.sub_self, Int.toNat_natCast, Nat.le_refl, Nat.add_zero, Nat.zero_add, if_true, if_false, reduceCtorEq, Option.bind_some, Option.map_some, tt_30, tt_35, hbl, hgt, Int.toNat_natCast, Nat.zero_add]
          refine ⟨⟨by omega, by omega⟩, by omega, ?_⟩
          refine CallK.pure _ _ c19a call19 (by simp only [AV.nmIn, bnd, req, ret, onQ, AV.isTup, isTupL, true_and, and_self, Bool.false_eq_true, List.append_nil, vw.vwL, vw, AV.free, AV.freeL, Bool.or_self]; all_goals (and_intros <;> first | exact AV.subL_refl _ | assumption | trivial | omega | rfl | (simp [AV.subL_refl]; done) | (simp; exact AV.subL_refl _) | (simp [AV.subL, AV.sub]; done))) ?_
          simp only [exOp_eq, exCall_eq, exD_cons, nxD_eq, cur_eq, flI, ownB, evL, stepQ, ev, lk, putT, erA, inB, opt, bnd, req, ret, onQ, ap, slF, bd, bds, and_true, true_and, Nat.reduceEqDiff, Nat.reduceLT, Nat.reduceAdd, Int.toNat_natCast, if_true, if_false, Option.bind_some, Option.map_some, tt_5, tt_22, htk, List.drop_zero]
          refine ⟨⟨by omega, by omega⟩, ?_⟩
          refine CallK.pure _ _ c16a call16 (by simp only [AV.nmIn, bnd, req, ret, onQ, AV.isTup, isTupL, true_and, and_self, Bool.false_eq_true, List.append_nil, vw.vwL, vw, AV.free, AV.freeL, Bool.or_self]; all_goals (and_intros <;> first | exact AV.subL_refl _ | assumption | trivial | omega | rfl | (simp [AV.subL_refl]; done) | (simp; exact AV.subL_refl _) | (simp [AV.subL, AV.sub]; done))) ?_
          simp only [Bool.not_true, ↓gFF, ↓nFF, exOp_eq, exCall_eq, exD_cons, nxD_eq, cur_eq, gdV, flI, ownB, evL, stepQ, ev, lk, putT, erA, inB, opt, bnd, req, ret, onQ, ap, binG, eqOp, intsOf, Kd.elem, ixA, asI, ldP, ldE, ldC, ldS, Kd.agg, comps, csize, takeI, takeC, dropC, slF, bd, bds, and_true, true_and, and_self, Nat.reduceEqDiff, Nat.reduceLT, Nat.reduceLeDiff, Nat.reduceAdd, Nat.reduceSub, Nat.sub_self, Int.toNat_natCast, Nat.le_refl, Nat.add_zero, Nat.zero_add, if_true, if_false, reduceCtorEq, List.getElem?_cons_zero, List.getElem?_cons_succ, Option.bind_some, Option.map_some, List.append_nil, tt_5, tt_22, tt_24, tt_30, tt_35, beq_self_eq_true, hbl, hgt, List.take_length]
          refine ⟨hD1, ⟨by omega, by omega⟩, by omega, ⟨by omega, by omega⟩, ?_⟩
          refine CallK.pure _ _ cw call18 (by simp only [AV.nmIn, bnd, req, ret, onQ, AV.isTup, isTupL, true_and, and_self, Bool.false_eq_true, List.append_nil, vw.vwL, vw, AV.free, AV.freeL, Bool.or_self]; all_goals (and_intros <;> first | exact AV.subL_refl _ | assumption | trivial | omega | rfl | (simp [AV.subL_refl]; done) | (simp; exact AV.subL_refl _) | (simp [AV.subL, AV.sub]; done))) ?_
          simp only [↓gFF, ↓nFF, exOp_eq, exCall_eq, exD_cons, nxD_eq, gdV, flI, ownB, ownL, evL, ev, lk, putT, erA, inB, ap, and_true, true_and, Nat.reduceEqDiff, Nat.reduceLT, Nat.reduceAdd, if_true, if_false, List.getElem?_cons_zero, List.getElem?_cons_succ, Option.bind_some, Option.map_some]
          refine CallK.pure _ _ c19b call19 (by simp only [AV.nmIn, bnd, req, ret, onQ, AV.isTup, isTupL, true_and, and_self, Bool.false_eq_true, List.append_nil, vw.vwL, vw, AV.free, AV.freeL, Bool.or_self]; all_goals (and_intros <;> first | exact AV.subL_refl _ | assumption | trivial | omega | rfl | (simp [AV.subL_refl]; done) | (simp; exact AV.subL_refl _) | (simp [AV.subL, AV.sub]; done))) ?_
          simp only [↓gFF, ↓nFF, exOp_eq, exCall_eq, exD_cons, nxD_eq, cur_eq, gdV, flI, ownB, evL, stepQ, ev, lk, putT, erA, inB, opt, ret, onQ, ap, and_true, true_and, Nat.reduceEqDiff, Nat.reduceLT, Nat.reduceAdd, if_true, if_false, List.getElem?_cons_zero, List.getElem?_cons_succ, Option.bind_some, Option.map_some]
          refine CallK.pure _ _ c16b call16 (by simp only [AV.nmIn, bnd, req, ret, onQ, AV.isTup, isTupL, true_and, and_self, Bool.false_eq_true, List.append_nil, vw.vwL, vw, AV.free, AV.freeL, Bool.or_self]; all_goals (and_intros <;> first | exact AV.subL_refl _ | assumption | trivial | omega | rfl | (simp [AV.subL_refl]; done) | (simp; exact AV.subL_refl _) | (simp [AV.subL, AV.sub]; done))) ?_
          simp only [Bool.not_true, ↓gFF, ↓nFF, exOp_eq, exD_nil, exD_cons, nxD_eq, cur_eq, gdV, flI, ownB, stepQ, ev, lk, putT, erA, inB, opt, bnd, req, ret, onQ, ap, binG, eqOp, intsOf, pickF, and_true, true_and, and_self, Nat.reduceEqDiff, Nat.reduceLT, Nat.reduceAdd, if_true, if_false, List.getElem?_cons_zero, List.getElem?_cons_succ, Option.bind_some, Option.map_some, List.append_nil, tt_5, tt_24, beq_self_eq_true]
          repeat (refine ⟨by omega, ?_⟩)
          refine hK _ ?_
          clear hK K
          refine W.cond (b := false) (by simp only [ev, lk, Nat.reduceEqDiff, if_true, if_false]) (fun h => absurd h (by simp)) (fun _ => W.skip ?_)
          simp only [thn_normal]
          refine hKq _ ?_
          refine W.region tt_ok ?_
          simp only [exOps_nil, exOps_cons, exOp_eq, exCall_eq, nx_eq, cur_eq, evL, stepQ, ev, lk, putT, erA, inB, opt, bnd, req, ret, onQ, ap, binG, binF, intF, bltQ, bltV, lenF, thn_normal, inb_normal, true_and, and_self, or_false, Nat.reduceEqDiff, Nat.reduceLT, Nat.reduceAdd, if_true, if_false, List.getElem?_cons_zero, Option.bind_some, Option.map_some, tt_22, hA2]
          refine hK _ ?_
          refine W.region tt_ok ?_
          simp only [exOps_nil, exOps_cons, exOp_eq, nx_eq, cur_eq, stepQ, ev, ofV, lk, putT, erA, inB, opt, bnd, req, ret, onQ, ap, binG, binF, intF, thn_normal, true_and, and_self, Nat.reduceEqDiff, Nat.reduceLT, Nat.reduceAdd, if_true, if_false, hw1]
          refine hK4 _ (k2 + 1) (by omega) (by omega) ?_
          simp [wkF, leF, leFE, fzN, fzR, entSub, AV.sub, vw, onQ, opt, bnd, req, ret, lk, AV.isTup, AV.nmIn, nmE, Ent.nmIn, Row.nmIn, vwL_bl, nmInL_bl]
        · have cw := writeB_at 8576 (Ak cs k2) ((Ak cs cs.length).drop (Ak cs k2).length) (by omega) (by omega) hw
          have hra := R_app (Ak cs k2) ((Ak cs cs.length).drop (Ak cs k2).length)
          rw [hdr] at cw hra
          rw [← hra] at c19b
          generalize dig (Ak cs k2) = D1 at *
          generalize dig (Ak cs cs.length) = D2 at *
          generalize R (Ak cs k2) ++ (Ak cs cs.length).drop (Ak cs k2).length = RA at *
          refine W.seqK fun K hK => W.regionK tt_ok ?_
          simp only [decide_true, exOps_nil, exOps_cons, exOp_eq, nx_eq, cur_eq, stepQ, ev, lk, putT, erA, inB, opt, bnd, req, ret, onQ, ap, binG, binF, intF, true_and, and_self, Nat.reduceEqDiff, Nat.reduceLT, Nat.reduceAdd, if_true, if_false, c2]
          refine hK _ ?_
          clear hK K
          refine W.seqK fun K hK => W.cond (b := true) (by simp only [ev, lk, Nat.reduceEqDiff, if_true, if_false]) (fun _ => W.skip ?_) (fun h => absurd h (by simp))
          rw [thn_normal]
          refine hK _ ?_
          clear hK K
          refine W.seqK fun K hK => W.blockK ?_
          refine W.seqK fun K hK => W.regionK tt_ok ?_
          simp only [exOps_nil, exOps_cons, exOp_eq, nx_eq, cur_eq, stepQ, ev, lk, putT, erA, inB, opt, bnd, req, ret, onQ, ap, Kd.elem, ixA, asI, ldP, ldC, ldS, Kd.agg, comps, csize, takeI, takeC, dropC, and_true, true_and, and_self, Nat.reduceEqDiff, Nat.reduceLT, Nat.reduceLeDiff, Nat.reduceAdd, Nat.reduceSub, Nat.sub_self, Int.toNat_natCast, Nat.le_refl, if_true, if_false, Bool.false_eq_true, reduceCtorEq, Option.bind_some, Option.map_some, tt_22, tt_34, hml, he, Int.toNat_natCast]
          refine ⟨by omega, ?_⟩
          refine hK _ ?_
          clear hK K
          refine W.seqK fun Kq hKq => ?_
          refine W.seqK fun K hK => W.drawK [⟨0, false, []⟩, ⟨0, false, []⟩, ⟨0, false, [0, 1]⟩, ⟨0, false, [0, 1, 2]⟩, ⟨0, false, [0, 1, 2, 3]⟩, ⟨0, false, []⟩, ⟨0, false, []⟩, ⟨0, false, [5, 6]⟩, ⟨0, false, [0, 1, 2, 3, 4, 5, 6, 7]⟩, ⟨0, false, [0, 1, 2, 3, 4, 5, 6, 7, 8]⟩, ⟨0, false, [0, 1, 2, 3, 4, 5, 6, 7, 8, 9]⟩, ⟨0, false, [0, 1, 2, 3, 4, 5, 6, 7, 8, 9, 10]⟩, ⟨0, false, [0, 1, 2, 3, 4, 5, 6, 7, 8, 9, 10]⟩, ⟨0, false, [0, 1, 2, 3, 4, 5, 6, 7, 8, 9, 10, 11, 12]⟩, ⟨0, false, [0, 1, 2, 3, 4, 5, 6, 7, 8, 9, 10, 11, 12, 13]⟩, ⟨0, false, [0, 1, 2, 3, 4, 5, 6, 7, 8, 9, 10]⟩, ⟨0, false, [0, 1, 2, 3, 4, 5, 6, 7, 8, 9, 10]⟩, ⟨0, false, [0, 1, 2, 3, 4, 5, 6, 7, 8, 9, 10, 15, 16]⟩, ⟨1, false, [0, 1, 2, 3, 4, 5, 6, 7, 8, 9, 10, 11, 12, 13, 14, 15, 16, 17]⟩, ⟨0, false, [0, 1, 2, 3, 4, 5, 6, 7, 8, 9, 10, 11, 12, 13, 14, 15, 16, 17, 18]⟩, ⟨0, false, [0, 1, 2, 3, 4, 5, 6, 7, 8, 9, 10]⟩, ⟨0, false, [0, 1, 2, 3, 4, 5, 6, 7, 8, 9, 10, 11, 12, 13, 14, 15, 16, 17, 18, 19, 20]⟩, ⟨0, false, [0, 1, 2, 3, 4, 5, 6, 7, 8, 9, 10, 11, 12, 13, 14, 15, 16, 17, 18, 19, 20, 21]⟩, ⟨0, false, [0, 1, 2, 3, 4, 5, 6, 7, 8, 9, 10, 11, 12, 13, 14, 15, 16, 17, 18, 19, 20, 21, 22]⟩] mix tt_ok (by kernel_rfl) ?_
          simp only [exOp_eq, exCall_eq, exD_cons, nxD_eq, cur_eq, flI, ownB, evL, stepQ, ev, lk, putT, erA, inB, opt, bnd, req, ret, onQ, ap, Kd.elem, ixA, asI, ldP, ldE, ldC, ldS, Kd.agg, comps, csize, takeI, takeC, dropC, and_true, true_and, and_self, Nat.reduceEqDiff, Nat.reduceLT, Nat.reduceLeDiff, Nat.reduceAdd, Nat.reduceSub, Nat.sub_self, Int.toNat_natCast, Nat.le_refl, Nat.add_zero, Nat.zero_add, if_true, if_false, reduceCtorEq, Option.bind_some, Option.map_some, tt_30, tt_35, hbl, hgt, Int.toNat_natCast, Nat.zero_add]
          refine ⟨⟨by omega, by omega⟩, by omega, ?_⟩
          refine CallK.pure _ _ c19a call19 (by simp only [AV.nmIn, bnd, req, ret, onQ, AV.isTup, isTupL, true_and, and_self, Bool.false_eq_true, List.append_nil, vw.vwL, vw, AV.free, AV.freeL, Bool.or_self]; all_goals (and_intros <;> first | exact AV.subL_refl _ | assumption | trivial | omega | rfl | (simp [AV.subL_refl]; done) | (simp; exact AV.subL_refl _) | (simp [AV.subL, AV.sub]; done))) ?_
          simp only [exOp_eq, exCall_eq, exD_cons, nxD_eq, cur_eq, flI, ownB, evL, stepQ, ev, lk, putT, erA, inB, opt, bnd, req, ret, onQ, ap, slF, bd, bds, and_true, true_and, Nat.reduceEqDiff, Nat.reduceLT, Nat.reduceAdd, Int.toNat_natCast, if_true, if_false, Option.bind_some, Option.map_some, tt_5, tt_22, htk, List.drop_zero]
          refine ⟨⟨by omega, by omega⟩, ?_⟩
          refine CallK.pure _ _ c16a call16 (by simp only [AV.nmIn, bnd, req, ret, onQ, AV.isTup, isTupL, true_and, and_self, Bool.false_eq_true, List.append_nil, vw.vwL, vw, AV.free, AV.freeL, Bool.or_self]; all_goals (and_intros <;> first | exact AV.subL_refl _ | assumption | trivial | omega | rfl | (simp [AV.subL_refl]; done) | (simp; exact AV.subL_refl _) | (simp [AV.subL, AV.sub]; done))) ?_
          simp only [Bool.not_true, ↓gFF, ↓nFF, exOp_eq, exCall_eq, exD_cons, nxD_eq, cur_eq, gdV, flI, ownB, evL, stepQ, ev, lk, putT, erA, inB, opt, bnd, req, ret, onQ, ap, binG, eqOp, intsOf, Kd.elem, ixA, asI, ldP, ldE, ldC, ldS, Kd.agg, comps, csize, takeI, takeC, dropC, slF, bd, bds, and_true, true_and, and_self, Nat.reduceEqDiff, Nat.reduceLT, Nat.reduceLeDiff, Nat.reduceAdd, Nat.reduceSub, Nat.sub_self, Int.toNat_natCast, Nat.le_refl, Nat.add_zero, Nat.zero_add, if_true, if_false, reduceCtorEq, List.getElem?_cons_zero, List.getElem?_cons_succ, Option.bind_some, Option.map_some, List.append_nil, tt_5, tt_22, tt_24, tt_30, tt_35, beq_self_eq_true, hbl, hgt, List.take_length]
          refine ⟨hD1, ⟨by omega, by omega⟩, by omega, ⟨by omega, by omega⟩, ?_⟩
          refine CallK.with [] [(8576, .vec 5 (.ints .u8 RA))] _ _ cw call18 (by simp only [AV.nmIn, bnd, req, ret, onQ, AV.isTup, isTupL, true_and, and_self, Bool.false_eq_true, List.append_nil, vw.vwL, vw, AV.free, AV.freeL, Bool.or_self]; all_goals (and_intros <;> first | exact AV.subL_refl _ | assumption | trivial | omega | rfl | (simp []; done) | (simp [AV.subL, AV.sub, entsFree]; done))) (by simp [leL]) (by intro n hn; first | (left; revert hn; simp [Nm, lk]; done) | (right; revert hn; simp only [Nm, lk]; split <;> simp <;> omega)) (by simp [entsIn]) ?_
          simp only [callDel, ↓gFF, ↓nFF, exOp_eq, exCall_eq, exD_cons, nxD_eq, gdV, flI, ownB, ownL, evL, ev, lk, putT, erA, inB, ap, up, er, and_true, true_and, and_self, Nat.reduceEqDiff, Nat.reduceLT, Nat.reduceAdd, Nat.le_refl, if_true, if_false, List.getElem?_cons_zero, List.getElem?_cons_succ, Option.bind_some, Option.map_some, List.nil_append, List.map_cons, List.map_nil, List.reverse_cons, List.reverse_nil]
          refine CallK.pure _ _ c19b call19 (by simp only [Bool.or_true, Bool.or_false, AV.nmIn, lk, opt, bnd, req, ret, onQ, AV.isTup, isTupL, Ent.row, and_true, true_and, and_self, Nat.reduceEqDiff, if_true, if_false, forall_const, List.append_nil, vw.vwL, vw, viewR, AV.free, AV.freeL, Ent.row, Bool.or_self]; all_goals (and_intros <;> first | exact AV.subL_refl _ | assumption | trivial | omega | rfl | (simp [AV.subL_refl]; done) | (simp; exact AV.subL_refl _) | (simp [AV.subL, AV.sub]; done))) ?_
          simp only [↓gFF, ↓nFF, exOp_eq, exCall_eq, exD_cons, nxD_eq, cur_eq, gdV, flI, ownB, evL, stepQ, ev, lk, putT, erA, inB, opt, ret, onQ, ap, and_true, true_and, Nat.reduceEqDiff, Nat.reduceLT, Nat.reduceAdd, if_true, if_false, List.getElem?_cons_zero, List.getElem?_cons_succ, Option.bind_some, Option.map_some]
          refine CallK.pure _ _ c16b call16 (by simp only [AV.nmIn, bnd, req, ret, onQ, AV.isTup, isTupL, true_and, and_self, Bool.false_eq_true, List.append_nil, vw.vwL, vw, AV.free, AV.freeL, Bool.or_self]; all_goals (and_intros <;> first | exact AV.subL_refl _ | assumption | trivial | omega | rfl | (simp [AV.subL_refl]; done) | (simp; exact AV.subL_refl _) | (simp [AV.subL, AV.sub]; done))) ?_
          simp only [Bool.not_true, ↓gFF, ↓nFF, exOp_eq, exD_nil, exD_cons, nxD_eq, cur_eq, gdV, flI, ownB, stepQ, ev, lk, putT, erA, inB, opt, bnd, req, ret, onQ, ap, binG, eqOp, intsOf, pickF, and_true, true_and, and_self, Nat.reduceEqDiff, Nat.reduceLT, Nat.reduceAdd, if_true, if_false, List.getElem?_cons_zero, List.getElem?_cons_succ, Option.bind_some, Option.map_some, List.append_nil, tt_5, tt_24, beq_self_eq_true]
          repeat (refine ⟨by omega, ?_⟩)
          refine hK _ ?_
          clear hK K
          refine W.cond (b := false) (by simp only [ev, lk, Nat.reduceEqDiff, if_true, if_false]) (fun h => absurd h (by simp)) (fun _ => W.skip ?_)
          simp only [thn_normal]
          refine hKq _ ?_
          refine W.region tt_ok ?_
          simp only [exOps_nil, exOps_cons, exOp_eq, exCall_eq, nx_eq, cur_eq, evL, stepQ, ev, lk, putT, erA, inB, opt, bnd, req, ret, onQ, ap, binG, binF, intF, bltQ, bltV, lenF, thn_normal, inb_normal, true_and, and_self, or_false, Nat.reduceEqDiff, Nat.reduceLT, Nat.reduceAdd, if_true, if_false, List.getElem?_cons_zero, Option.bind_some, Option.map_some, tt_22, hA2]
          refine hK _ ?_
          refine W.region tt_ok ?_
          simp only [exOps_nil, exOps_cons, exOp_eq, nx_eq, cur_eq, stepQ, ev, ofV, lk, putT, erA, inB, opt, bnd, req, ret, onQ, ap, binG, binF, intF, thn_normal, true_and, and_self, Nat.reduceEqDiff, Nat.reduceLT, Nat.reduceAdd, if_true, if_false, hw1]
          refine hK4 _ (k2 + 1) (by omega) (by omega) ?_
          simp [wkF, leF, leFE, fzN, fzR, entSub, AV.sub, vw, onQ, opt, bnd, req, ret, lk, AV.isTup, AV.nmIn, nmE, Ent.nmIn, Row.nmIn, vwL_bl, nmInL_bl]
      have hk3 : k2 = cs.length := by omega
      subst hk3
      have c2 : ¬ ((cs.length : Int) < cs.length) := by omega
      refine W.seqK fun K hK => W.regionK tt_ok ?_
      simp only [decide_false, exOps_nil, exOps_cons, exOp_eq, nx_eq, cur_eq, stepQ, ev, lk, putT, erA, inB, opt, bnd, req, ret, onQ, ap, binG, binF, intF, true_and, and_self, Nat.reduceEqDiff, Nat.reduceLT, Nat.reduceAdd, if_true, if_false, c2]
      refine hK _ ?_
      clear hK K
      refine W.seqK fun K hK => W.cond (b := false) (by simp only [ev, lk, Nat.reduceEqDiff, if_true, if_false]) (fun h => absurd h (by simp)) (fun _ => W.exit ?_)
      simp only [thn_normal, thn_exit, inb_exit, if_true]
      refine hKv _ ?_
      refine W.seqK fun K hK => W.regionK tt_ok ?_
      simp only [exOps_nil, exOps_cons, exOp_eq, nx_eq, cur_eq, stepQ, ev, ofV, putT, erA, inB, opt, ret, onQ, ap, true_and, Nat.reduceEqDiff, Nat.reduceLT, Nat.reduceAdd, if_true, if_false]
      refine hK _ ?_
      clear hK K
      refine W.ret ?_
      simp only [fin_ret, finB, resQ, resV, leL, AV.nmIn, entsIn, lk, opt, bnd, req, ret, onQ, AV.isTup, and_self, Nat.reduceEqDiff, if_true, if_false]
end Go.Proofs.YtageadccfdbmjaaDoor
