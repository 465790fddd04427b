/- slices.Chunk: its function, told by value; what a range over it gives. -/
import Derived.Test.YtbefcdgjainflaaHc1
import Derived.Test.YtbefcdgjainflaaHsR
import Derived.Test.YtbefcdgjainflaaSxW
set_option linter.unusedVariables false
set_option linter.unusedSectionVars false
set_option linter.unusedSimpArgs false
namespace Sx
open Go
/-- A function that captures whole new values, told by value. -/
theorem FnR.pels {P : Program} {G : Nat → Option AV} {f g : Nat} {args : List AV} {L : List (Nat × AV)} {h' : Ents} (hF : FnR P G f args [] (.fn (.func g) (L.map fun p => .ptr p.1 0 0 1)) h')
    (hL : ∀ p ∈ L, p.2.nmIn NoNm ∧ ∃ T, lk h' p.1 = some (.obj T p.2)) : FnR P G f args [] (.fn (.func g) (L.map fun p => .pel p.2)) [] := by
  intro B ρ w vs hb hm hg hl ha
  refine (hF B ρ w vs hb hm hg hl ha).mono ?_
  rintro e w' ⟨x, ρ', rfl, hr, hmem, hk⟩
  have hS : ∀ b, Stab B ρ' h' w' b → Stab B ρ' [] w' b := fun b hb => ⟨hb.1, hb.2.1, fun m x hm => (by cases hm)⟩
  refine ⟨x, ρ', rfl, ?_, ⟨fun m x hm => (by cases hm), fun m m' x x' hm => (by cases hm)⟩, ⟨⟨fun b hb => ⟨hS b (hk.evo.stable b hb).1, (hk.evo.stable b hb).2⟩, hk.evo.sized⟩, fun n h1 => (by cases h1), fun m x hm => (by cases hm), hk.size, hk.os, hk.out, hk.tape, hk.others⟩⟩
  obtain ⟨cs, rfl, hrc⟩ := hr.inv (fun l hl => (by cases hl))
  have hc : ∃ us : Nat → List Value, (∀ i p, L[i]? = some p → RC ρ' (Stab B ρ' h' w') w' (Nm h') (.ptr p.1 0 0 1) (us i)) ∧ cs = [.func (.func g) #[] (L.zipIdx.map fun (x, i) => (us i).headD (.tuple #[])).toArray] := by
    generalize hz : (L.map fun p => AV.ptr p.1 0 0 1) = cp at hrc
    cases hrc with
    | fnb us hus => cases L <;> simp at hz
    | fn us hus hne =>
      subst hz
      refine ⟨us, fun i p hp => hus i _ (by simp [hp]), ?_⟩
      simp [List.zipIdx_map, List.map_map, Function.comp_def, shape, AV.isAgg]
  obtain ⟨us, hus, rfl⟩ := hc
  have e : (L.zipIdx.map fun (x, i) => (us i).headD (.tuple #[])) = (((L.map fun p => AV.pel p.2).zipIdx).map fun (x, i) => shape x (us i)) := by
    simp [List.zipIdx_map, List.map_map, Function.comp_def, shape, AV.isAgg]
  rw [e]
  refine .one (.fn us (fun i x hi => ?_) (fun l hl => by cases L <;> simp at hl))
  rw [List.getElem?_map, Option.map_eq_some_iff] at hi
  obtain ⟨p, hp, rfl⟩ := hi
  have h1 := hus i p hp
  obtain ⟨h2, T, h3⟩ := hL p (List.mem_of_getElem? hp)
  have h4 := (hmem.en p.1 _ h3).2
  cases h4 with
  | obj hv hcel =>
    rename_i cs2
    generalize us i = ui at h1
    cases h1
    refine .pel ((hv.restrict h2).mono ⟨fun b hb => ⟨hS b hb, rfl⟩, fun b n h => h⟩ NoNm (fun n h => h.elim)) ⟨hb _ ?_, hcel.lt, fun m x hm => (by cases hm)⟩ (fun j u hj => ?_)
    · rcases hk.fresh p.1 _ h3 with ⟨m0, x0, h0, _⟩ | h
      · cases h0
      · exact h
    · rw [hcel.cell]; simpa using hj
end Sx
namespace Go.Proofs.Ytbefcdgjainflaa
open Sx
variable [Inhabited Tabs]
def part (xs : List Int) (k : Nat) : List Int := (xs.drop (32 * k)).take 32
theorem part_len {xs : List Int} {n k : Nat} (hx : xs.length = 32 * n) (hk : k < n) : (part xs k).length = 32 := by rw [part, List.length_take, List.length_drop]; omega
theorem chunk_it (xs : List Int) (n : Nat) (hx : xs.length = 32 * n) (h0 : 0 < n) (hn : n ≤ 3) : IterR Try.prog 49 [.pel (.lstI .u8 xs), .pel (.int .i64 32)] ((List.range n).map fun k => .lstI .u8 (part xs k)) := by
  intro S w lb ρ hl hr
  obtain ⟨v1, h1, r1⟩ := hr 0 _ rfl
  obtain ⟨v2, h2, r2⟩ := hr 1 _ rfl
  have hlb : lb = [v1, v2] := by
    match lb, hl, h1, h2 with
    | [a, b], _, h1, h2 => simp at h1 h2; rw [h1, h2]
  subst hlb
  obtain ⟨c1, rfl, w1⟩ := r1.inv (fun l hl => (by cases hl))
  obtain ⟨c2, rfl, w2⟩ := r2.inv (fun l hl => (by cases hl))
  cases w1 with
  | pel q1 s1 k1 =>
  cases w2 with
  | pel q2 s2 k2 =>
  rename_i b1 o1 cs1 b2 o2 cs2
  cases q2
  cases q1 with
  | lstI hlen hmax hcell =>
  rename_i a cap
  have hx0 : 0 < xs.length := by omega
  obtain ⟨b, o, rfl, _, _⟩ := hcell 0 _ (List.getElem?_eq_getElem hx0)
  have hc : ∀ i x, xs[i]? = some x → S b ∧ w.cell? ⟨b, o + i, none⟩ = some (.int .u8 x) := fun i x hi => by
    obtain ⟨b', o', h1, h2, h3⟩ := hcell i x hi
    cases h1; exact ⟨h2, h3⟩
  refine ⟨(List.range n).map fun k => .slice (some (Addr.add ⟨b, o, none⟩ (32 * k))) 32 32, by simp, fun i x hi => ?_, fun l J W hS hd hY hJ0 => ?_⟩
  · rw [List.getElem?_map, Option.map_eq_some_iff] at hi
    obtain ⟨k, hk, rfl⟩ := hi
    obtain ⟨hi1, hi2⟩ := List.getElem?_eq_some_iff.1 hk
    simp at hi1 hi2
    subst hi2
    have hp := part_len hx hi1
    refine ⟨_, by simp [hi1]; rfl, ?_⟩
    have := RC.lstI (ρ := ρ) (S := S) (w := w) (N := NoNm) (k := .u8) (xs := part xs i) (a := some (Addr.add ⟨b, o, none⟩ (32 * i))) (cap := 32) (by omega) (by decide) (fun j y hj => by
      have hj' : j < 32 := by have := (List.getElem?_eq_some_iff.1 hj).1; omega
      rw [part, List.getElem?_take, if_pos hj', List.getElem?_drop] at hj
      obtain ⟨g1, g2⟩ := hc _ _ hj
      exact ⟨b, o + 32 * i, by simp [Addr.add], g1, by rw [Nat.add_assoc]; exact g2⟩)
    rw [hp] at this
    exact .one this
  · have hcl : ∀ {W : World} {b' o' : Nat}, W.heap[b']? = w.heap[b']? → W.cell? ⟨b', o', none⟩ = w.cell? ⟨b', o', none⟩ := fun h => by simp [World.cell?, h]
    have e1 : ∀ k W, J k W → W.cell? ⟨b1, o1, none⟩ = some (.slice (some ⟨b, o, none⟩) (32 * n) cap) ∧ W.cell? ⟨b2, o2, none⟩ = some (.int .i64 32) := fun k W hW => by
      refine ⟨(hcl (hS k W hW b1 s1)).trans ?_, (hcl (hS k W hW b2 s2)).trans ?_⟩
      · have := k1 0 _ rfl; rw [hx] at this; simpa using this
      · have := k2 0 _ rfl; simpa using this
    have := chunk1 l ⟨b1, o1, none⟩ ⟨b2, o2, none⟩ ⟨b, o, none⟩ cap n hn (by omega) J W e1 (fun k W h => hd k W h) (fun k W hW hk => hY k _ W (by simp [hk]) hW) hJ0
    simpa [Sx.shape, AV.isAgg] using this
end Go.Proofs.Ytbefcdgjainflaa
