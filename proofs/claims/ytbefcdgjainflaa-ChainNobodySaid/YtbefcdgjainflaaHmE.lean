/- strings.Builder: the text that was written. -/
import Derived.Test.YtbefcdgjainflaaHmC
import Derived.Lib.UnsafeStr
set_option linter.unusedVariables false
set_option linter.unusedSectionVars false
set_option linter.unusedSimpArgs false
namespace Go.Proofs.Ytbefcdgjainflaa
open Sx Go.Shelf Go.RowKit
variable [Inhabited Tabs]
theorem lays169 : Lays.n169 Try.prog rn := by constructor <;> first | kernel_rfl | (intro w; kernel_rfl)
set_option maxHeartbeats 2000000 in
set_option maxRecDepth 1000000 in
/-- The walk: a builder at b, whose row lies at g. -/
theorem str_raw (b g n cap : Nat) (l : List UInt8) (w : World) (hb : w.cell? ⟨b, 1, none⟩ = some (.slice (some ⟨g, 0, none⟩) l.length cap)) (h0 : l ≠ []) (hcap : l.length ≤ cap) (hm : cap ≤ maxLen) (hsh : w.shape? g = some (5, n)) (hn : l.length ≤ n)
    (hcell : ∀ j x, l[j]? = some x → w.cell? ((⟨g, 0, none⟩ : Addr).add j) = some (.int .u8 x.toNat)) :
    Calls Try.prog 69 #[.pointer (some ⟨b, 0, none⟩)] w fun e w' => e = .returned (.string ⟨l.toArray⟩) ∧ w' = w.drew.freeze ⟨g, 0, none⟩ l.length := by
  have L := lays169
  have X := ex5
  have hl0 : l.length ≠ 0 := by simpa using h0
  have c1 : w.drew.cell? ⟨b, 1, none⟩ = some (.slice (some ⟨g, 0, none⟩) l.length cap) := hb
  have hSD : (Builtin.unsafeSliceData_ #[(rn.t 37)] (rn.t 127) #[.slice (some ⟨g, 0, none⟩) l.length cap]).run Try.prog w.drew = .ok (.pointer (some ⟨g, 0, none⟩)) w.drew :=
    Lib.run_unsafeSliceData_row _ _ _ _ _ _ (by omega)
  have hUS : (Builtin.unsafeString_ #[(rn.t 127), (rn.t 3)] (rn.t 9) #[.pointer (some ⟨g, 0, none⟩), .int .i64 l.length]).run Try.prog w.drew = .ok (.string ⟨l.toArray⟩) (w.drew.freeze ⟨g, 0, none⟩ l.length) :=
    Lib.run_unsafeString_row w.drew (rn.t 127) (rn.t 3) (rn.t 9) (rn.t 5) L.t127 X.cellsByte g n hsh l h0 hn (by unfold maxLen at hm; omega) hcell
  have mixed := L.mixed
  have t72 := L.t72; have a72 := L.a72; have z72 := L.z72; have v72 := L.v72; have u72 := run_underlying L.t72
  have t70 := L.t70; have a70 := L.a70; have z70 := L.z70; have v70 := L.v70; have u70 := run_underlying L.t70
  have t37 := L.t37; have a37 := L.a37; have z37 := L.z37; have v37 := L.v37; have u37 := run_underlying L.t37
  have t127 := L.t127; have a127 := L.a127; have z127 := L.z127; have v127 := L.v127; have u127 := run_underlying L.t127
  have t3 := L.t3; have a3 := L.a3; have z3 := L.z3; have v3 := L.v3; have u3 := run_underlying L.t3
  have t9 := L.t9; have a9 := L.a9; have z9 := L.z9; have v9 := L.v9; have u9 := run_underlying L.t9
  have t5 := X.t5; have a5 := X.a5; have z5 := X.z5; have v5 := X.v5; have u5 := run_underlying X.t5
  show Calls Try.prog (rn.f 169) _ _ _
  go_enter L.f169, Body.n169_ntmps rn
  go_wp2
  go_region_o
  all_goals (go_wp2; go_ret; exact ⟨rfl, rfl⟩)
theorem bstr_fn (X Y : Nat) (hXY : X ≠ Y) (bs : List Int) (h0 : bs ≠ []) (hb : ∀ x ∈ bs, 0 ≤ x ∧ x < 256) :
    FnR Try.prog G 69 [.ptr X 0 0 1] [(X, .obj 120 (.agg [.ptr X 0 0 1, .sl Y 1 0 bs.length])), (Y, .vec 5 (.ints .u8 bs))] (.str (strOf bs)) [] := by
  intro B ρ w vs hbig hmem hgl hlen ha
  have hl0 : lk [(X, Ent.obj 120 (.agg [.ptr X 0 0 1, .sl Y 1 0 bs.length])), (Y, .vec 5 (.ints .u8 bs))] X = some (.obj 120 (.agg [.ptr X 0 0 1, .sl Y 1 0 bs.length])) := by simp [lk]
  have hl1 : lk [(X, Ent.obj 120 (.agg [.ptr X 0 0 1, .sl Y 1 0 bs.length])), (Y, .vec 5 (.ints .u8 bs))] Y = some (.vec 5 (.ints .u8 bs)) := by simp [lk, hXY]
  obtain ⟨v, hv, hrv⟩ := ha 0 _ rfl
  have hvs : vs = [v] := by
    match vs, hlen, hv with
    | [u], _, hv => simp at hv; rw [hv]
  subst hvs
  obtain ⟨cs, rfl, hc⟩ := hrv.inv (fun l hl => by cases hl)
  cases hc
  have he := (hmem.en X _ hl0).2
  have hf := (hmem.en Y _ hl1).2
  cases he with
  | obj hr hc =>
  cases hr with
  | cons g1 g2 =>
  cases g1
  cases g2 with
  | cons g3 g4 =>
  cases g4
  cases g3 with
  | sl hn ha2 hl hm hrw hcp =>
  rename_i cap ad nr
  cases hf with
  | vec hrow hcy hct =>
  rename_i cs2 c
  cases hrow
  have hlen0 : 0 < bs.length := List.length_pos_iff.2 h0
  have had : ad = ⟨ρ Y, 0, none⟩ := by
    rcases ha2 with h | ⟨h, _, _⟩
    · simpa using h
    · omega
  subst had
  obtain ⟨⟨lo, hi⟩, hcy1, hcy2⟩ := id hcy
  rw [List.length_map] at hct
  have hcs : bs.length ≤ c.size := by
    have := congrArg List.length hct
    simp at this; omega
  have hget : ∀ j x, bs[j]? = some x → c[j]? = some (Value.int .u8 x) := fun j x hx => by
    have hj := (List.getElem?_eq_some_iff.1 hx).1
    have : (c.toList.take bs.length)[j]? = some (Value.int .u8 x) := by rw [hct]; simp [hx]
    rw [List.getElem?_take, if_pos hj] at this
    simpa using this
  let l : List UInt8 := bs.map fun n => UInt8.ofNat n.toNat
  have hll : l.length = bs.length := by simp [l]
  have key := str_raw (ρ X) (ρ Y) c.size cap l w (by rw [hc.cell, hll]; rfl) (by simpa [l] using h0) (by omega) hm (by simp [World.shape?, hcy1]) (by omega) (fun j x hx => by
    simp only [l, List.getElem?_map, Option.map_eq_some_iff] at hx
    obtain ⟨y, hy, rfl⟩ := hx
    have hj := (List.getElem?_eq_some_iff.1 hy).1
    have h1 := hb y (List.mem_of_getElem? hy)
    have e : (UInt8.ofNat y.toNat).toNat = y.toNat := by simp; omega
    have : w.cell? ⟨ρ Y, j, none⟩ = some (.int .u8 y) := by rw [hcy.cell]; exact hget j y hy
    rw [e, Int.toNat_of_nonneg h1.1]
    have e2 : (Addr.mk (ρ Y) 0 none).add j = ⟨ρ Y, j, none⟩ := by
      unfold Addr.add
      by_cases hj0 : j = 0
      · subst hj0; simp
      · simp [hj0]
    rw [e2]; exact this)
  have e0 : (Addr.mk (ρ X) (0 + 0 * 1) none) = ⟨ρ X, 0, none⟩ := rfl
  refine key.mono ?_
  rintro e w' ⟨rfl, rfl⟩
  have hoth : ∀ b : Nat, b ≠ ρ Y → (w.drew.freeze ⟨ρ Y, 0, none⟩ l.length).heap[b]? = w.heap[b]? := fun b hne => by
    unfold World.freeze
    split
    · rfl
    · simp only [Array.getElem?_modify]
      rw [if_neg (Ne.symm hne)]; rfl
  have hsz : (w.drew.freeze ⟨ρ Y, 0, none⟩ l.length).heap.size = w.heap.size := by
    unfold World.freeze
    split
    · rfl
    · simp only [Array.size_modify]; rfl
  have hos : ∀ W : World, ∀ a n, (W.freeze a n).os = W.os ∧ (W.freeze a n).output = W.output ∧ (W.freeze a n).tape = W.tape := fun W a n => by
    unfold World.freeze; split <;> exact ⟨rfl, rfl, rfl⟩
  have hrwY : ∀ b n, Rw w b n → Rw (w.drew.freeze ⟨ρ Y, 0, none⟩ l.length) b n := fun b n hr => by
    by_cases hb : b = ρ Y
    · subst hb
      obtain ⟨c1, T1, fr1, e1, e2⟩ := hr
      rw [hcy1] at e1; cases e1
      unfold World.freeze
      split
      · exact ⟨c, _, (lo, hi), hcy1, e2⟩
      · refine ⟨c, 5, if lo == hi then (0, 0 + l.length) else (min lo 0, max hi (0 + l.length)), ?_, e2⟩
        simp only [Array.getElem?_modify, if_true]
        have h3 : w.drew.heap[ρ Y]? = some (.cells c 5 (lo, hi)) := hcy1
        rw [h3]
        rfl
    · exact hr.congr (hoth b hb)
  refine ⟨_, ρ, rfl, .ofStr, ⟨fun m x hm => (by cases hm), fun m m' x x' hm => (by cases hm)⟩, ⟨⟨fun b hb => ⟨⟨hb.1, by rw [hsz]; exact hb.2.1, fun m x hm => (by cases hm)⟩, hoth b (fun q => hb.2.2 Y _ hl1 q.symm)⟩, hrwY⟩, fun n h1 h2 => (by cases h2), fun m x hm => (by cases hm), by rw [hsz]; exact Nat.le_refl _, (hos w.drew ⟨ρ Y, 0, none⟩ l.length).1, (hos w.drew ⟨ρ Y, 0, none⟩ l.length).2.1, (hos w.drew ⟨ρ Y, 0, none⟩ l.length).2.2, fun b hb hn => hoth b (fun q => hn Y _ hl1 q.symm)⟩⟩
theorem call69 : Callable Try.prog 69 := ⟨_, Try.func69, by kernel_rfl, by kernel_rfl⟩
end Go.Proofs.Ytbefcdgjainflaa
