/- The digest's tables, whatever is in them, out of the world's shape; the arguments' shapes. -/
import Derived.Test.YtbefcdgjainflaaHsB
import Derived.Test.YtbefcdgjainflaaSxW
import Derived.HandedShaped
set_option linter.unusedVariables false
set_option linter.unusedSimpArgs false
namespace Go.Proofs.Ytbefcdgjainflaa
open Sx
theorem ints_of {P : Program} {W : World} {t : TypeId} {cs : Array Value} {n : Nat} (hs : cs.size = n) (hn : 0 < n) (hr : Row.ok P W .any 0 t cs) (hct : P.cellTypes P.depth t = some (List.replicate n 66)) (hu : P.underlying 66 = some (.int .u32)) :
    ∃ xs : List Int, xs.length = n ∧ cs.toList = xs.map (Value.int .u32) ∧ ∀ x ∈ xs, 0 ≤ x ∧ x < 4294967296 := by
  obtain ⟨ts, hts, _, hall⟩ := hr
  rw [hct] at hts
  cases hts
  have key : ∀ (i : Nat) v, cs[i]? = some v → ∃ m : Int, v = .int .u32 m ∧ 0 ≤ m ∧ m < 4294967296 := by
    intro i v hv
    obtain ⟨u, h1, h2⟩ := hall i v hv
    have h3 : u = 66 := by
      rw [List.getElem?_replicate] at h1
      split at h1
      · cases h1; rfl
      · cases h1
    subst h3
    unfold Cell.ok at h2
    rw [hu] at h2
    cases v <;> simp at h2
    rename_i k m
    obtain ⟨rfl, h4⟩ := h2
    refine ⟨m, rfl, ?_⟩
    simp [IntKind.has, IntKind.min, IntKind.max, IntKind.signed, IntKind.bits] at h4
    omega
  let f : Value → Int := fun v => match v with | .int _ m => m | _ => 0
  refine ⟨cs.toList.map f, by simpa using hs, ?_, ?_⟩
  · rw [List.map_map]
    conv => lhs; rw [← List.map_id cs.toList]
    apply List.map_congr_left
    intro v hv
    obtain ⟨i, hi⟩ := List.getElem?_of_mem hv
    obtain ⟨m, rfl, _⟩ := key i v (by simpa using hi)
    rfl
  · intro x hx
    obtain ⟨v, hv, rfl⟩ := List.mem_map.1 hx
    obtain ⟨i, hi⟩ := List.getElem?_of_mem hv
    obtain ⟨m, rfl, hm⟩ := key i v (by simpa using hi)
    exact hm
theorem tabs_of {W : World} (h : W.ShapedOpen Try.prog) : ∃ T : Tabs, GL (@G ⟨T⟩) id (fun b => b < W.heap.size) W := by
  have z0 : ∃ z, ((begin Try.prog (fun _ _ => 0) default).world.heap[0]?).bind Obj.row? = some (z, 93) ∧ z.size = 8 := by
    have q : (((begin Try.prog (fun _ _ => 0) default).world.heap[0]?).bind Obj.row?).map (fun p => (p.1.size, p.2)) = some (8, 93) := by kernel_rfl
    rw [Option.map_eq_some_iff] at q
    obtain ⟨⟨z, t⟩, q1, q2⟩ := q
    simp only [Prod.mk.injEq] at q2
    obtain ⟨q2, rfl⟩ := q2
    exact ⟨z, q1, q2⟩
  have z1 : ∃ z, ((begin Try.prog (fun _ _ => 0) default).world.heap[1]?).bind Obj.row? = some (z, 106) ∧ z.size = 64 := by
    have q : (((begin Try.prog (fun _ _ => 0) default).world.heap[1]?).bind Obj.row?).map (fun p => (p.1.size, p.2)) = some (64, 106) := by kernel_rfl
    rw [Option.map_eq_some_iff] at q
    obtain ⟨⟨z, t⟩, q1, q2⟩ := q
    simp only [Prod.mk.injEq] at q2
    obtain ⟨q2, rfl⟩ := q2
    exact ⟨z, q1, q2⟩
  obtain ⟨z0, y1, y2⟩ := z0
  obtain ⟨z1, y3, y4⟩ := z1
  have hgs : Try.prog.globals.size = 3 := by kernel_rfl
  obtain ⟨c0, h1, h2, h3⟩ := h.1 0 z0 93 (by rw [hgs]; omega) y1
  obtain ⟨c1, h4, h5, h6⟩ := h.1 1 z1 106 (by rw [hgs]; omega) y3
  obtain ⟨st, s1, s2, s3⟩ := ints_of (by omega : c0.size = 8) (by omega) (h3 (by kernel_rfl)) (by kernel_rfl) (by kernel_rfl)
  obtain ⟨kt, k1, k2, k3⟩ := ints_of (by omega : c1.size = 64) (by omega) (h6 (by kernel_rfl)) (by kernel_rfl) (by kernel_rfl)
  refine ⟨⟨st, kt, s1, k1, s3⟩, ?_⟩
  intro g x hg
  have l0 : 0 < W.heap.size := (Array.getElem?_eq_some_iff.1 h1).1
  have l1 : 1 < W.heap.size := (Array.getElem?_eq_some_iff.1 h4).1
  unfold G at hg
  split at hg
  · next q =>
    subst q
    cases hg
    refine .pel (o := 0) (cs := st.map (Value.int .u32)) (by have := RC.cons (RC.ints (ρ := id) (S := fun b => b < W.heap.size) (w := W) (N := NoNm) (k := .u32) s1) .nil; exact (by simpa using this : RC id (fun b => b < W.heap.size) W NoNm (.agg [.ints .u32 8 st]) (st.map (Value.int .u32)))) l0 (fun j u hj => ?_)
    rw [← s2] at hj
    simp only [World.cell?, h1, Nat.zero_add]
    simpa using hj
  · split at hg
    · next q =>
      subst q
      cases hg
      refine .pel (o := 0) (cs := kt.map (Value.int .u32)) (by have := RC.cons (RC.ints (ρ := id) (S := fun b => b < W.heap.size) (w := W) (N := NoNm) (k := .u32) k1) .nil; exact (by simpa using this : RC id (fun b => b < W.heap.size) W NoNm (.agg [.ints .u32 64 kt]) (kt.map (Value.int .u32)))) l1 (fun j u hj => ?_)
      rw [← k2] at hj
      simp only [World.cell?, h4, Nat.zero_add]
      simpa using hj
    · cases hg
end Go.Proofs.Ytbefcdgjainflaa
