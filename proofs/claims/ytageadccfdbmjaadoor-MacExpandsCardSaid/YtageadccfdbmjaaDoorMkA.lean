/- The function of slices.Chunk: what a range over it gives, one by one. -/
import Derived.RangeFuncBox
import Derived.RangeFuncLeaves
import Derived.Shelf.Abstract
import Derived.WalkKit
import Derived.OwnWalkIn
import Derived.TacticsInMore
import Derived.LoopNIn
import Derived.LoopIn
import Derived.Test.YtageadccfdbmjaaDoorProg
import Derived.Test.YtageadccfdbmjaaDoorShR
import Derived.Test.YtageadccfdbmjaaDoorSxW
namespace Go.Proofs.YtageadccfdbmjaaDoor
open Go.RowKit Go.Shelf
set_option maxRecDepth 100000 in
set_option maxHeartbeats 4000000 in
theorem chunk1 (l : Nat) (p1 p2 a : Addr) (cap : Nat) (n : Nat) (hn : n ≤ 3) (hcap : 32 * n ≤ cap) (J : Nat → World → Prop) (W : World)
    (h1 : ∀ k W, J k W → W.cell? p1 = some (.slice (some a) (32 * n) cap) ∧ W.cell? p2 = some (.int .i64 32))
    (hd : ∀ k W, J k W → J k W.drew)
    (hY : ∀ k W, J k W → k < n → YieldAt Fence.wide 0 Tryd.prog l #[.slice (some (a.add (32 * k))) 32 32] W fun e W' => e = .returned (.bool true) ∧ J (k + 1) W') (h0 : J 0 W) :
    CallsIn Fence.wide 0 Tryd.prog 44 #[.func (.yield l) #[] #[], .pointer (some p1), .pointer (some p2)] W fun e W' => (∃ v, e = .returned v) ∧ J n W' := by
  refine callsIn_of_wp Tryd.func44 rfl trivial ?_ rfl
  simp only [Tryd.ntmps44, List.size_toArray, List.length_cons, List.length_nil, Nat.reduceAdd, Nat.reduceSub, Array.replicate_succ, Array.replicate_zero, List.push_toArray, List.append_toArray, List.nil_append, List.cons_append]
  gi_wp2
  gi_loopw [4] (fun i wr => ∃ k : Nat, k ≤ n ∧ i = .int .i64 (32 * k : Nat) ∧ J k wr)
    (fun i _ => 32 * n - (intOf i).toNat)
  case atStart => exact ⟨0, Nat.zero_le _, rfl, h0⟩
  case round =>
    obtain ⟨k, hk, rfl, hJs⟩ := hrel
    obtain ⟨c1, c2⟩ := h1 k wr hJs
    by_cases hlt : k < n
    · have hJd := hd k wr hJs
      obtain ⟨fn, tmps, assign, body, hy, hR⟩ := hY k _ hJd hlt
      obtain ⟨d1, d2⟩ := h1 k _ hJd
      gi_wp2
      gi_region
      all_goals gi_wp2
      refine ⟨rfl, hR.mono ?_⟩
      rintro e W3 ⟨rfl, hJ3⟩
      obtain ⟨e1, e2⟩ := h1 _ W3 hJ3
      gi_wp2
      go_roundw
      case rel => exact ⟨k + 1, by omega, by simp; omega, hJ3⟩
      case measure => simp [intOf]; omega
    · obtain rfl : k = n := by omega
      gi_wp2
      go_end0
      exact ⟨⟨_, rfl⟩, hJs⟩
end Go.Proofs.YtageadccfdbmjaaDoor

/- slices.Chunk: its function, told by value; what a range over it gives. -/
set_option linter.unusedVariables false
set_option linter.unusedSimpArgs false
namespace Sx
open Go
/-- A function that captures whole new values, told by value. -/
theorem FnR.pels {P : Program} {G : Nat → Option AV} {f g : Nat} {args : List AV} {L : List (Nat × AV)} {h' : Ents} (hF : FnR P G f args [] (.fn (.func g) (L.map fun p => .ptr p.1 0 0 1)) h')
    (hL : ∀ p ∈ L, p.2.nmIn NoNm ∧ ∃ T, lk h' p.1 = some (.obj T p.2)) : FnR P G f args [] (.fn (.func g) (L.map fun p => .pel p.2)) [] := by
  intro B ρ w vs hb hm hg hl ha
  refine (hF B ρ w vs hb hm hg hl ha).mono ?_
  rintro e w' ⟨x, ρ', rfl, hr, hmem, hk⟩
  have hS : ∀ b, Stab B ρ' h' w' b → Stab B ρ' [] w' b := fun b hb => ⟨hb.1, hb.2.1, fun m x hm => (by cases hm)⟩
  refine ⟨x, ρ', rfl, ?_, ⟨fun m x hm => (by cases hm), fun m m' x x' hm => (by cases hm)⟩, ⟨⟨fun b hb => ⟨hS b (hk.evo.stable b hb).1, (hk.evo.stable b hb).2⟩, hk.evo.sized⟩, fun n h1 => (by cases h1), fun m x hm => (by cases hm), hk.size, hk.os, hk.out, hk.tape, hk.others⟩⟩
  obtain ⟨cs, rfl, hrc⟩ := hr.inv (fun l hl => (by cases hl))
  have hc : ∃ us : Nat → List Value, (∀ i p, L[i]? = some p → RC ρ' (Stab B ρ' h' w') w' (Nm h') (.ptr p.1 0 0 1) (us i)) ∧ cs = [.func (.func g) #[] (L.zipIdx.map fun (x, i) => (us i).headD (.tuple #[])).toArray] := by
    generalize hz : (L.map fun p => AV.ptr p.1 0 0 1) = cp at hrc
    cases hrc with
    | fnb us hus => cases L <;> simp at hz
    | fn us hus hne =>
      subst hz
      refine ⟨us, fun i p hp => hus i _ (by simp [hp]), ?_⟩
      simp [List.zipIdx_map, List.map_map, Function.comp_def, shape, AV.isAgg]
  obtain ⟨us, hus, rfl⟩ := hc
  have e : (L.zipIdx.map fun (x, i) => (us i).headD (.tuple #[])) = (((L.map fun p => AV.pel p.2).zipIdx).map fun (x, i) => shape x (us i)) := by
    simp [List.zipIdx_map, List.map_map, Function.comp_def, shape, AV.isAgg]
  rw [e]
  refine .one (.fn us (fun i x hi => ?_) (fun l hl => by cases L <;> simp at hl))
  rw [List.getElem?_map, Option.map_eq_some_iff] at hi
  obtain ⟨p, hp, rfl⟩ := hi
  have h1 := hus i p hp
  obtain ⟨h2, T, h3⟩ := hL p (List.mem_of_getElem? hp)
  have h4 := (hmem.en p.1 _ h3).2
  cases h4 with
  | obj hv hcel =>
    rename_i cs2
    generalize us i = ui at h1
    cases h1
    refine .pel ((hv.restrict h2).mono ⟨fun b hb => ⟨hS b hb, rfl⟩, fun b n h => h⟩ NoNm (fun n h => h.elim)) ⟨hb _ ?_, hcel.lt, fun m x hm => (by cases hm)⟩ (fun j u hj => ?_)
    · rcases hk.fresh p.1 _ h3 with ⟨m0, x0, h0, _⟩ | h
      · cases h0
      · exact h
    · rw [hcel.cell]; simpa using hj
end Sx
namespace Go.Proofs.YtageadccfdbmjaaDoor
open Sx
def part (xs : List Int) (k : Nat) : List Int := (xs.drop (32 * k)).take 32
theorem part_len {xs : List Int} {n k : Nat} (hx : xs.length = 32 * n) (hk : k < n) : (part xs k).length = 32 := by rw [part, List.length_take, List.length_drop]; omega
theorem chunk_it (xs : List Int) (n : Nat) (hx : xs.length = 32 * n) (h0 : 0 < n) (hn : n ≤ 3) : IterR Tryd.prog 44 [.pel (.lstI .u8 xs), .pel (.int .i64 32)] ((List.range n).map fun k => .lstI .u8 (part xs k)) := by
  intro S w lb ρ hl hr
  obtain ⟨v1, h1, r1⟩ := hr 0 _ rfl
  obtain ⟨v2, h2, r2⟩ := hr 1 _ rfl
  have hlb : lb = [v1, v2] := by
    match lb, hl, h1, h2 with
    | [a, b], _, h1, h2 => simp at h1 h2; rw [h1, h2]
  subst hlb
  obtain ⟨c1, rfl, w1⟩ := r1.inv (fun l hl => (by cases hl))
  obtain ⟨c2, rfl, w2⟩ := r2.inv (fun l hl => (by cases hl))
  cases w1 with
  | pel q1 s1 k1 =>
  cases w2 with
  | pel q2 s2 k2 =>
  rename_i b1 o1 cs1 b2 o2 cs2
  cases q2
  cases q1 with
  | lstI hlen hmax hcell =>
  rename_i a cap
  have hx0 : 0 < xs.length := by omega
  obtain ⟨b, o, rfl, _, _⟩ := hcell 0 _ (List.getElem?_eq_getElem hx0)
  have hc : ∀ i x, xs[i]? = some x → S b ∧ w.cell? ⟨b, o + i, none⟩ = some (.int .u8 x) := fun i x hi => by
    obtain ⟨b', o', h1, h2, h3⟩ := hcell i x hi
    cases h1; exact ⟨h2, h3⟩
  refine ⟨(List.range n).map fun k => .slice (some (Addr.add ⟨b, o, none⟩ (32 * k))) 32 32, by simp, fun i x hi => ?_, fun l J W hS hd hY hJ0 => ?_⟩
  · rw [List.getElem?_map, Option.map_eq_some_iff] at hi
    obtain ⟨k, hk, rfl⟩ := hi
    obtain ⟨hi1, hi2⟩ := List.getElem?_eq_some_iff.1 hk
    simp at hi1 hi2
    subst hi2
    have hp := part_len hx hi1
    refine ⟨_, by simp [hi1]; rfl, ?_⟩
    have := RC.lstI (ρ := ρ) (S := S) (w := w) (N := NoNm) (k := .u8) (xs := part xs i) (a := some (Addr.add ⟨b, o, none⟩ (32 * i))) (cap := 32) (by omega) (by decide) (fun j y hj => by
      have hj' : j < 32 := by have := (List.getElem?_eq_some_iff.1 hj).1; omega
      rw [part, List.getElem?_take, if_pos hj', List.getElem?_drop] at hj
      obtain ⟨g1, g2⟩ := hc _ _ hj
      exact ⟨b, o + 32 * i, by simp [Addr.add], g1, by rw [Nat.add_assoc]; exact g2⟩)
    rw [hp] at this
    exact .one this
  · have hcl : ∀ {W : World} {b' o' : Nat}, W.heap[b']? = w.heap[b']? → W.cell? ⟨b', o', none⟩ = w.cell? ⟨b', o', none⟩ := fun h => by simp [World.cell?, h]
    have e1 : ∀ k W, J k W → W.cell? ⟨b1, o1, none⟩ = some (.slice (some ⟨b, o, none⟩) (32 * n) cap) ∧ W.cell? ⟨b2, o2, none⟩ = some (.int .i64 32) := fun k W hW => by
      refine ⟨(hcl (hS k W hW b1 s1)).trans ?_, (hcl (hS k W hW b2 s2)).trans ?_⟩
      · have := k1 0 _ rfl; rw [hx] at this; simpa using this
      · have := k2 0 _ rfl; simpa using this
    have := chunk1 l ⟨b1, o1, none⟩ ⟨b2, o2, none⟩ ⟨b, o, none⟩ cap n hn (by omega) J W e1 (fun k W h => hd k W h) (fun k W hW hk => hY k _ W (by simp [hk]) hW) hJ0
    simpa [Sx.shape, AV.isAgg] using this
end Go.Proofs.YtageadccfdbmjaaDoor

/- The code's keys. -/
-- TT 3 4 5 9 22 24 26 27 28 30 34 42 47 69 79
set_option linter.unusedVariables false
set_option linter.unusedSimpArgs false
namespace Go.Proofs.YtageadccfdbmjaaDoor
open Sx
set_option maxRecDepth 100000
set_option maxHeartbeats 4000000
theorem chunk_own (xs : List Int) : FnR Tryd.prog G 36 [.lstI .u8 xs, .int .i64 32] [] (.fn (.func 44) [.ptr 0 0 0 1, .ptr 16 0 0 1]) [(0, .obj 22 (.lstI .u8 xs)), (16, .obj 3 (.int .i64 32))] := by
  refine FnR.of_walk (m := 9) (n0 := 0) tt_ok Tryd.func36 rfl rfl (by simp) (by simp [nmH]) ?_
  rw [show Tryd.f36.results.toList = [.tmp 4] from rfl]
  refine W.seqK fun K hK => W.regionK tt_ok ?_
  simp only [exOps_nil, exOps_cons, exOp_eq, nx_eq, cur_eq, stepQ, ev, ofV, lk, parT, putT, erA, inB, opt, req, ret, onQ, ap, up, er, AV.isTup, true_and, and_self, Nat.reduceEqDiff, Nat.reduceLT, Nat.reduceAdd, Nat.zero_add, if_true, if_false, reduceCtorEq]
  refine hK _ ?_
  clear hK K
  refine W.seqK fun Ky hKy => ?_
  refine W.seqK fun K hK => W.regionK tt_ok ?_
  simp only [decide_false, exOps_nil, exOps_cons, exOp_eq, nx_eq, cur_eq, stepQ, ev, ofV, lk, putT, erA, inB, opt, bnd, req, ret, onQ, ap, binG, binF, intF, ldP, ldE, ldC, ldS, Kd.agg, comps, csize, takeI, takeC, dropC, true_and, and_self, Nat.reduceEqDiff, Nat.reduceLT, Nat.reduceLeDiff, Nat.reduceAdd, Nat.reduceSub, Int.reduceLT, Nat.sub_self, Nat.le_refl, if_true, if_false, Bool.false_eq_true, reduceCtorEq, Option.bind_some, Option.map_some, tt_3]
  refine hK _ ?_
  clear hK K
  refine W.cond (b := false) (by simp only [ev, lk, Nat.reduceEqDiff, if_true, if_false, reduceCtorEq]) (fun h => absurd h (by simp)) (fun _ => W.skip ?_)
  simp only [thn_normal]
  refine hKy _ ?_
  refine W.seqK fun K hK => W.regionK tt_ok ?_
  simp only [Bool.or_false, exOps_nil, exOps_cons, exOp_eq, nx_eq, cur_eq, evL, stepQ, ev, lk, putT, erA, inB, opt, bnd, req, ret, onQ, ap, AV.isTup, isTupL, mkfQ, noNilf, true_and, and_self, Nat.reduceEqDiff, Nat.reduceLT, Nat.reduceAdd, if_true, if_false, reduceCtorEq, Option.bind_some, Option.map_some]
  refine hK _ ?_
  clear hK K
  refine W.ret ?_
  simp only [fin_ret, finB, resQ, resV, leL, AV.nmIn, AV.nmInL, entsIn, lk, opt, bnd, req, ret, onQ, AV.isTup, and_true, true_and, and_self, Nat.reduceEqDiff, if_true, if_false, reduceCtorEq]
  simp [Nm, lk, Ent.nmIn, AV.nmIn]
theorem chunk_fn (xs : List Int) : FnR Tryd.prog G 36 [.lstI .u8 xs, .int .i64 32] [] (.fn (.func 44) [.pel (.lstI .u8 xs), .pel (.int .i64 32)]) [] :=
  FnR.pels (L := [(0, .lstI .u8 xs), (16, .int .i64 32)]) (chunk_own xs) (by
    intro p hp
    simp only [List.mem_cons, List.not_mem_nil, or_false] at hp
    rcases hp with rfl | rfl
    · exact ⟨trivial, 22, rfl⟩
    · exact ⟨trivial, 3, rfl⟩)
theorem call36 : Callable Tryd.prog 36 := ⟨_, Tryd.func36, by kernel_rfl, by kernel_rfl⟩
theorem call44 : Callable Tryd.prog 44 := ⟨_, Tryd.func44, by kernel_rfl, by kernel_rfl⟩
theorem call25 : Callable Tryd.prog 25 := ⟨_, Tryd.func25, by kernel_rfl, by kernel_rfl⟩
def partV (E : List Int) (k : Nat) : AV := .agg [.ints .u8 32 (part E k)]
def keysV (E : List Int) (n : Nat) : AV := .lst 32 ((List.range n).map (partV E))
def kE (X Y : Nat) (E : List Int) (k : Nat) : Ents := if k = 0 then [(X, .obj 47 .nils)] else [(X, .obj 47 (.agg [.sl Y 32 0 k])), (Y, .vec 24 (.avs 32 ((List.range k).map (partV E))))]
theorem nmInL_agg (N : Nat → Prop) (E : List Int) (k : Nat) : AV.nmInL N ((List.range k).map (partV E)) := by
  generalize List.range k = l
  induction l with
  | nil => trivial
  | cons a l ih => exact ⟨⟨trivial, trivial⟩, ih⟩
theorem kmap (f : Nat → Nat) (E : List Int) (k : Nat) : AV.mapL f (List.map (partV E) (List.range k) ++ [.agg [.ints .u8 32 (part E k)]]) = List.map (partV E) (List.range k) ++ [partV E k] := by
  rw [AV.mapL_eq, List.map_append, List.map_map]
  congr 1
theorem knm (N : Nat → Prop) (E : List Int) (k : Nat) : AV.nmInL N (List.map (partV E) (List.range k) ++ [partV E k]) := by
  have := nmInL_agg N E (k + 1)
  rwa [List.range_succ, List.map_append] at this
theorem keys_fn (key b : List Int) (n : Nat) (hk : key.length = 32) (hb : b.length ≤ 80000) (h1 : 1 ≤ n) (h3 : n ≤ 3) :
    FnR Tryd.prog G 26 [.agg [.ints .u8 32 key], .lstI .u8 b, .int .i64 (n : Int)] [] (.tup [keysV (expn (hmac key b) [] (32 * n)) n, .int .i64 0]) [] := by
  have c1 := extract_fn key b (by omega) hb
  have hD := hmac_len key b
  have c2 := expand_fn (hmac key b) [] (32 * n) hD (by simp) (by omega)
  have hE := expn_len (hmac key b) [] (32 * n)
  generalize expn (hmac key b) [] (32 * n) = E at *
  generalize hmac key b = D at *
  have c3 := chunk_fn E
  have hkt : List.take 32 key = key := List.take_of_length_le (by omega)
  have hw : IntKind.i64.wrap ((n : Int) * 32) = ((32 * n : Nat) : Int) := by rw [IntKind.wrap_i64]; omega
  have c1 : FnR Tryd.prog G 23 [.lstI .u8 (List.take 32 key), .lstI .u8 b] [] (.agg [.ints .u8 32 D]) [] := by rw [hkt]; exact c1
  rw [← hw] at c2
  have hit := chunk_it E n hE h1 h3
  have n1 : ¬ (n : Int) < 1 := by omega
  have n2 : ¬ 3 < (n : Int) := by omega
  refine FnR.of_walkT (m := 38) tt_ok Tryd.func26 rfl rfl (by simp) ?_
  rw [show Tryd.f26.results.toList = [.tmp 6, .tmp 7] from rfl]
  refine W.seqK fun K hK => W.regionK tt_ok ?_
  simp only [exOps_nil, exOps_cons, exOp_eq, nx_eq, cur_eq, stepQ, ev, ofV, lk, parT, putT, erA, inB, opt, req, ret, onQ, ap, up, er, AV.isTup, true_and, and_self, Nat.reduceEqDiff, Nat.reduceLT, Nat.reduceAdd, Nat.zero_add, if_true, if_false, reduceCtorEq]
  refine hK _ ?_
  clear hK K
  refine W.seqK fun Ky hKy => ?_
  refine W.seqK fun K hK => W.regionK tt_ok ?_
  simp only [↓gFF, ↓nFF, decide_false, exOps_nil, exOps_cons, exOp_eq, nx_eq, cur_eq, stepQ, ev, ofV, lk, putT, erA, inB, opt, bnd, req, ret, onQ, ap, binG, binF, intF, pickF, and_true, true_and, and_self, Nat.reduceEqDiff, Nat.reduceLT, Nat.reduceAdd, if_true, if_false, reduceCtorEq, List.getElem?_cons_zero, List.getElem?_cons_succ, Option.bind_some, n1, n2]
  refine hK _ ?_
  clear hK K
  refine W.cond (b := false) (by simp only [ev, lk, Nat.reduceEqDiff, if_true, if_false, reduceCtorEq]) (fun h => absurd h (by simp)) (fun _ => W.skip ?_)
  simp only [thn_normal]
  refine hKy _ ?_
  refine W.seqK fun K hK => W.regionK tt_ok ?_
  simp only [exOps_cons, exOp_eq, exCall_eq, nx_eq, cur_eq, evL, stepQ, ev, lk, putT, erA, inB, opt, bnd, req, ret, onQ, ap, comps, szL, csize, slF, bd, bds, true_and, and_self, Nat.reduceEqDiff, Nat.reduceLT, Nat.reduceLeDiff, Nat.reduceAdd, Nat.reduceSub, Nat.reduceMul, Nat.add_zero, if_true, if_false, reduceCtorEq, Option.bind_some, Option.map_some, tt_5, tt_24]
  refine CallK.pure _ _ c1 call23 (by simp only [Bool.or_false, AV.nmIn, lk, opt, bnd, req, ret, onQ, AV.isTup, isTupL, Ent.row, and_true, true_and, and_self, Nat.zero_add, if_true, forall_const, List.append_nil, vw.vwL, vw, viewR, AV.free, AV.freeL, Ent.row, Bool.or_self]; all_goals (and_intros <;> first | exact AV.subL_refl _ | omega | (simp [AV.sub]; done) | rfl | (simp [AV.subL_refl]; done) | (simp; exact AV.subL_refl _))) ?_
  simp only [exOps_cons, exOp_eq, exCall_eq, nx_eq, cur_eq, evL, stepQ, ev, ofV, lk, putT, erA, inB, opt, bnd, req, ret, onQ, ap, binG, binF, intF, true_and, and_self, Nat.reduceEqDiff, Nat.reduceLT, Nat.reduceAdd, if_true, if_false, reduceCtorEq, Option.bind_some, Option.map_some]
  refine CallK.pure _ _ c2 call24 (by simp only [AV.nmIn, bnd, req, ret, onQ, AV.isTup, isTupL, true_and, and_self, Bool.false_eq_true, List.append_nil, vw.vwL, vw, AV.free, AV.freeL, Bool.or_self]; all_goals (and_intros <;> first | exact AV.subL_refl _ | omega | (simp [AV.sub]; done) | rfl | (simp [AV.subL_refl]; done) | (simp; exact AV.subL_refl _))) ?_
  simp only [exOps_nil, exOps_cons, exOp_eq, nx_eq, cur_eq, stepQ, ev, lk, putT, erA, inB, opt, ret, onQ, ap, true_and, Nat.reduceEqDiff, Nat.reduceLT, Nat.reduceAdd, if_true, if_false, reduceCtorEq, List.getElem?_cons_zero, List.getElem?_cons_succ]
  repeat (refine ⟨by omega, ?_⟩)
  refine hK _ ?_
  clear hK K
  refine W.seqK fun K hK => W.regionK tt_ok ?_
  simp only [exOps_nil, exOps_cons, exOp_eq, nx_eq, cur_eq, stepQ, putT, erA, inB, opt, ret, onQ, ap, up, er, true_and, Nat.reduceEqDiff, Nat.reduceLT, Nat.reduceAdd, if_false, reduceCtorEq, tt_47]
  refine hK _ ?_
  clear hK K
  refine W.seqK fun Kz hKz => ?_
  refine W.seqK fun K hK => W.regionK tt_ok ?_
  simp only [exOps_cons, exOp_eq, exCall_eq, nx_eq, cur_eq, evL, stepQ, ev, ofV, lk, putT, erA, inB, opt, ret, onQ, ap, true_and, Nat.reduceEqDiff, Nat.reduceLT, Nat.reduceAdd, if_true, if_false, reduceCtorEq, Option.bind_some, Option.map_some]
  refine CallK.pure _ _ c3 call36 (by simp only [AV.nmIn, bnd, req, ret, onQ, AV.isTup, isTupL, true_and, and_self, Bool.false_eq_true, List.append_nil, vw.vwL, vw, AV.free, AV.freeL, Bool.or_self]; all_goals (and_intros <;> first | exact AV.subL_refl _ | omega | (simp [AV.sub]; done) | rfl | (simp [AV.subL_refl]; done) | (simp; exact AV.subL_refl _))) ?_
  simp only [exOps_nil, nx_eq, putT, erA, ap, Nat.reduceEqDiff, Nat.reduceAdd, if_false, reduceCtorEq]
  refine hK _ ?_
  clear hK K
  refine W.blockK ?_
  refine W.rangeFunc (p := 29) (q := 11) (f := 44) [(9, .int .i64 0), (10, .ptr 320 0 0 1)] (kE 320 400 E) 1024 rfl (by simp) (by simp [AV.nmInL, AV.nmIn]) hit call44 AsgK.of (by simp) (by simp) ?_ ?_ ?_ ?_
  · simp [wk, leL, lk, nmT, nmE, nmH, kE, AV.nmIn, Ent.nmIn]
  · intro k hk
    by_cases h0 : k = 0
    · subst h0
      refine ⟨fun i x hi => ?_, by simp [kE, entsIn, Ent.nmIn, AV.nmIn], by simp [kE, nmH]⟩
      simp only [lk] at hi
      repeat' split at hi
      all_goals first | (cases hi; done) | (cases hi; simp [kE, AV.nmIn, Nm, lk])
    · refine ⟨fun i x hi => ?_, ?_, by simp [kE, h0, nmH]⟩
      · simp only [lk] at hi
        repeat' split at hi
        all_goals first | (cases hi; done) | (cases hi; simp [kE, h0, AV.nmIn, Nm, lk])
      · simp only [kE, h0, if_false, entsIn, Ent.nmIn, AV.nmIn, AV.nmInL, Row.nmIn, and_true]
        exact ⟨by simp [Nm, lk], nmInL_agg _ _ _⟩
  · intro k x l hx K hK
    have hkn : k < n := by have := (List.getElem?_eq_some_iff.1 hx).1; simpa using this
    have hx' : x = .lstI .u8 (part E k) := by simp [hkn] at hx; exact hx.symm
    subst hx'
    have hp := part_len hE hkn
    have hpt : List.take 32 (part E k) = part E k := List.take_of_length_le (by omega)
    refine W.blockK ?_
    by_cases h0 : k = 0
    · subst h0
      simp only [kE, if_true]
      refine exD_sound (A := [⟨0, true, [], false⟩, ⟨0, false, [], false⟩, ⟨0, false, [1], false⟩, ⟨0, false, [1, 2], false⟩, ⟨1, false, [1, 2, 3], false⟩, ⟨2, false, [0, 1, 2, 3, 4], false⟩, ⟨2, false, [0, 1, 2, 3, 4, 5], false⟩]) mix tt_ok (by kernel_rfl) ?_
      simp only [decide_true, Bool.or_false, List.contains_nil, exOp_eq, exCall_eq, exD_nil, exD_cons, nxD_eq, cur_eq, flI, flE, ownB, ownL, evL, evP, stepQ, ev, lk, putT, erA, inB, opt, bnd, req, ret, onQ, ap, up, er, AV.isTup, AV.isAgg, ldP, ldE, ldC, ldS, Kd.agg, comps, szL, csize, takeI, takeC, dropC, stP, stE, stC, stS, bltQ, bltV, stapQ, appQ, appV, srcQ, Row.len, Row.sz, Row.take, Row.drop, Ent.row, Row.lst, bldA, bslQ, zeroCs, cellsRow, chunks, ones, thn_normal, inb_normal, and_true, true_and, and_self, and_false, or_false, Nat.reduceEqDiff, Nat.reduceLT, Nat.reduceLeDiff, Nat.reduceAdd, Nat.reduceSub, Nat.reduceMul, Nat.reduceDiv, Nat.sub_self, Nat.le_refl, Nat.add_zero, Nat.zero_add, if_true, if_false, cond_true, Bool.false_eq_true, reduceCtorEq, ne_eq, not_false_eq_true, Option.bind_some, Option.map_some, List.append_nil, List.nil_append, tt_24, tt_47, hp, hpt, List.replicate_one, List.flatten_cons, List.flatten_nil, List.length_cons, List.length_nil, List.drop_zero, List.take_succ_cons, List.take_zero]
      refine hK _ 1104 400 ⟨by simp, by simp⟩ ?_
      simp [wk, St.swap, enMap, tmMap, swp, leL, lk, nmT, nmE, nmH, kE, AV.nmIn, AV.nmInL, Ent.nmIn, Row.nmIn, AV.map, AV.mapL, Ent.map, Row.map, partV]
    · simp only [kE, if_neg h0]
      refine exD_sound (A := [⟨0, true, [], false⟩, ⟨0, false, [], false⟩, ⟨0, false, [1], false⟩, ⟨0, false, [1, 2], false⟩, ⟨1, false, [1, 2, 3], false⟩, ⟨2, false, [0, 1, 2, 3, 4], false⟩, ⟨2, false, [0, 1, 2, 3, 4, 5], false⟩]) mix tt_ok (by kernel_rfl) ?_
      simp only [decide_true, Bool.or_false, List.contains_nil, exOp_eq, exCall_eq, exD_nil, exD_cons, nxD_eq, cur_eq, flI, flE, ownB, ownL, evL, evP, stepQ, ev, lk, putT, erA, inB, opt, bnd, req, ret, onQ, ap, up, er, AV.isTup, AV.isAgg, ldP, ldE, ldC, ldS, Kd.agg, comps, szL, csize, takeI, takeC, dropC, stP, stE, stC, stS, bltQ, bltV, appR, stapQ, appQ, appV, srcQ, Row.len, Row.sz, Row.take, Row.drop, Row.app, Ent.row, bldA, bslQ, zeroCs, cellsRow, chunks, ones, thn_normal, inb_normal, and_true, true_and, and_self, and_false, or_false, Nat.reduceEqDiff, Nat.reduceLT, Nat.reduceLeDiff, Nat.reduceAdd, Nat.reduceSub, Nat.reduceMul, Nat.reduceDiv, Nat.sub_self, Nat.le_refl, Nat.add_zero, Nat.zero_add, if_true, if_false, cond_true, Bool.false_eq_true, reduceCtorEq, Option.bind_some, Option.map_some, List.append_nil, List.nil_append, tt_24, tt_47, hp, hpt, List.replicate_one, List.flatten_cons, List.flatten_nil, List.length_cons, List.length_nil, List.drop_zero, List.take_succ_cons, List.take_zero, List.length_map, List.length_range]
      refine ⟨⟨by omega, by omega⟩, hK _ 1104 400 ⟨by simp, by simp⟩ ?_⟩
      have ht : List.take k (List.map (partV E) (List.range k)) = List.map (partV E) (List.range k) := List.take_of_length_le (by simp)
      rw [ht]
      simp [wk, St.swap, enMap, tmMap, swp, leL, lk, nmT, nmE, nmH, kE, AV.nmIn, AV.nmInL, Ent.nmIn, Row.nmIn, AV.map, AV.mapL, Ent.map, Row.map, List.range_succ, h0]
      exact ⟨kmap _ E k, knm _ E k⟩
  · have hn0 : ¬ n = 0 := by omega
    simp only [inb_normal, thn_normal, List.length_map, List.length_range]
    refine hKz _ ?_
    simp only [kE, if_neg hn0]
    refine W.seqK fun K hK => W.regionK tt_ok ?_
    simp only [exOps_nil, exOps_cons, exOp_eq, nx_eq, cur_eq, stepQ, ev, lk, putT, erA, inB, opt, bnd, req, ret, onQ, ap, ldP, ldE, ldC, ldS, Kd.agg, comps, csize, takeI, takeC, dropC, true_and, and_self, Nat.reduceEqDiff, Nat.reduceLT, Nat.reduceLeDiff, Nat.reduceAdd, Nat.reduceSub, Nat.sub_self, Nat.le_refl, if_true, if_false, Bool.false_eq_true, reduceCtorEq, Option.bind_some, Option.map_some, tt_47]
    refine hK _ ?_
    clear hK K
    have hn : n = 1 ∨ n = 2 ∨ n = 3 := by omega
    rcases hn with rfl | rfl | rfl
    · refine W.ret ?_
      simp only [finT_ret, finTB, resQ, lk, opt, bnd, req, ret, onQ, AV.isTup, true_and, and_self, Nat.reduceEqDiff, if_true, if_false, ne_eq]
      simp [vw, vw.vwL, viewL, viewE, viewEL, lk, Ent.row, opt, bnd, req, ret, AV.nmIn, AV.nmInL, show List.range 1 = [0] from rfl, List.map_cons, List.map_nil, partV, keysV]
    · refine W.ret ?_
      simp only [finT_ret, finTB, resQ, lk, opt, bnd, req, ret, onQ, AV.isTup, true_and, and_self, Nat.reduceEqDiff, if_true, if_false, ne_eq]
      simp [vw, vw.vwL, viewL, viewE, viewEL, lk, Ent.row, opt, bnd, req, ret, AV.nmIn, AV.nmInL, show List.range 2 = [0, 1] from rfl, List.map_cons, List.map_nil, partV, keysV]
    · refine W.ret ?_
      simp only [finT_ret, finTB, resQ, lk, opt, bnd, req, ret, onQ, AV.isTup, true_and, and_self, Nat.reduceEqDiff, if_true, if_false, ne_eq]
      simp [vw, vw.vwL, viewL, viewE, viewEL, lk, Ent.row, opt, bnd, req, ret, AV.nmIn, AV.nmInL, show List.range 3 = [0, 1, 2] from rfl, List.map_cons, List.map_nil, partV, keysV]
end Go.Proofs.YtageadccfdbmjaaDoor
