/- strings.Builder: what marks it as written, and its text. -/
import Derived.Test.YtbefcdgjainflaaHmA
import Derived.Shelf.Strings.Builder1
set_option linter.unusedVariables false
set_option linter.unusedSectionVars false
set_option linter.unusedSimpArgs false
namespace Go.Proofs.Ytbefcdgjainflaa
open Sx Go.Shelf Go.RowKit
variable [Inhabited Tabs]
def rn : Ren where
  f n := if n = 99 then 73 else if n = 105 then 70 else if n = 165 then 74 else if n = 166 then 67 else if n = 169 then 69 else if n = 170 then 68 else if n = 206 then 78 else if n = 212 then 72 else if n = 240 then 71 else if n = 241 then 79 else if n = 263 then 76 else if n = 264 then 77 else if n = 276 then 75 else if n = 277 then 80 else n
  t n := if n = 37 then 39 else if n = 46 then 105 else if n = 51 then 66 else if n = 53 then 94 else if n = 70 then 118 else if n = 72 then 120 else if n = 75 then 122 else if n = 76 then 123 else if n = 80 then 59 else if n = 109 then 127 else if n = 127 then 70 else if n = 146 then 133 else if n = 148 then 135 else if n = 164 then 131 else n
  g n := n
theorem lays240 : Lays.n240 Try.prog rn := by constructor <;> first | kernel_rfl | (intro w; kernel_rfl)
theorem ex72 : Builder.X72 Try.prog rn := by constructor <;> kernel_rfl
theorem ex5 : Builder.Extra Try.prog rn := { ex72 with
  t5 := by kernel_rfl
  a5 := by intro w; kernel_rfl
  z5 := by intro w; kernel_rfl
  v5 := by intro w; kernel_rfl
  infoByte := by kernel_rfl
  cellsByte := by kernel_rfl
  sizeByte := by kernel_rfl
  neB5 := by decide }
/-- A call that writes one entry of its own anew, and hands nothing back. -/
theorem FnR.write1 {P : Program} {G : Nat → Option AV} {f X : Nat} {x x' : Ent} {r : Ents}
    (hrun : ∀ (B : Nat → Prop) (ρ : Nat → Nat) (w : World), Mem B ρ (Nm ((X, x) :: r)) ((X, x) :: r) w → EntR ρ (Stab B ρ ((X, x) :: r) w) w (Nm ((X, x) :: r)) (ρ X) x →
      ∃ w' : World, Calls P f #[.pointer (some ⟨ρ X, 0, none⟩)] w (fun e w2 => e = .returned (.tuple #[]) ∧ w2 = w') ∧ (∀ b : Nat, b ≠ ρ X → w'.heap[b]? = w.heap[b]?) ∧ w'.heap.size = w.heap.size ∧ w'.os = w.os ∧ w'.output = w.output ∧ w'.tape = w.tape ∧ (∀ n, Rw w (ρ X) n → Rw w' (ρ X) n) ∧
        (∀ S' : Nat → Prop, Evo (Stab B ρ ((X, x) :: r) w) S' w w' → EntR ρ S' w' (Nm ((X, x) :: r)) (ρ X) x')) :
    FnR P G f [.ptr X 0 0 1] ((X, x) :: r) (.tup []) ((X, x') :: r) := by
  intro B ρ w vs hbig hmem hgl hlen ha
  obtain ⟨v, hv, hrv⟩ := ha 0 _ rfl
  have hvs : vs = [v] := by
    match vs, hlen, hv with
    | [u], _, hv => simp at hv; rw [hv]
  subst hvs
  obtain ⟨cs, rfl, hc⟩ := hrv.inv (fun l hl => by cases hl)
  cases hc
  have hl0 : lk ((X, x) :: r) X = some x := by simp [lk]
  obtain ⟨w', h1, h2, h3, h4, h5, h6, h7, h8⟩ := hrun B ρ w hmem (hmem.en X x hl0).2
  have hle : ∀ n, lk ((X, x') :: r) n = if X = n then some x' else lk ((X, x) :: r) n := by
    intro n; simp only [lk]; split <;> rfl
  obtain ⟨q1, q2⟩ := hmem.write (e' := (X, x') :: r) hl0 hle h2 h3 h4 h5 h6 h7 (fun hevo => h8 _ hevo)
  have hNm : Nm ((X, x') :: r) = Nm ((X, x) :: r) := by
    funext n; simp only [Nm, lk]; split <;> simp
  refine h1.mono ?_
  rintro e w2 ⟨rfl, rfl⟩
  refine ⟨_, ρ, rfl, .unit, by rw [hNm]; exact q1, ⟨q2.evo, fun n h1 h2 => rfl, q2.fresh, q2.size, q2.os, q2.out, q2.tape, q2.others⟩⟩
/-- A value of one cell. -/
def one1 (a : AV) : Prop := ∀ (ρ : Nat → Nat) (S : Nat → Prop) (w : World) (N : Nat → Prop) (cs : List Value), RC ρ S w N a cs → ∃ v, cs = [v]
theorem one_nils : one1 .nils := fun _ _ _ _ _ h => by cases h; exact ⟨_, rfl⟩
theorem one_sl (nm sz off len : Nat) : one1 (.sl nm sz off len) := fun _ _ _ _ _ h => by cases h; exact ⟨_, rfl⟩
theorem cc_fresh (X : Nat) (bv : AV) (r : Ents) (h1 : one1 bv) : FnR Try.prog G 71 [.ptr X 0 0 1] ((X, .obj 120 (.agg [.nilp, bv])) :: r) (.tup []) ((X, .obj 120 (.agg [.ptr X 0 0 1, bv])) :: r) := by
  refine FnR.write1 (fun B ρ w hmem hent => ?_)
  cases hent with
  | obj hr hb =>
  rename_i cs
  cases hr with
  | cons g1 g2 =>
  cases g1
  cases g2 with
  | cons g3 g4 =>
  cases g4
  obtain ⟨v, rfl⟩ := h1 _ _ _ _ _ g3
  obtain ⟨fr, hh, hfr⟩ := id hb
  have hh : w.heap[ρ X]? = some (.cells #[.pointer none, v] 120 fr) := hh
  have hlt : ρ X < w.heap.size := (Array.getElem?_eq_some_iff.1 hh).1
  let w' : World := w.setCell ⟨ρ X, 0, none⟩ (.pointer (some ⟨ρ X, 0, none⟩))
  have hh' : w'.heap[ρ X]? = some (.cells #[.pointer (some ⟨ρ X, 0, none⟩), v] 120 fr) := by simp [w', World.setCell, Array.getElem?_modify, hh]
  have hcel : Cel w' (ρ X) [.pointer (some ⟨ρ X, 0, none⟩), v].toArray 120 := ⟨fr, hh', hfr⟩
  refine ⟨w', Any.Builder_copyCheck_fresh lays240 ex72 (ρ X) w (by rw [hb.cell]; rfl) (by simp [World.shape?, hh]; rfl) (hb.frozen (by simp)), fun b hne => ?_, by simp [w', World.setCell], rfl, rfl, rfl, fun n hn => ?_, fun S' hevo => ?_⟩
  · simp [w', World.setCell, Array.getElem?_modify, Ne.symm hne]
  · obtain ⟨c1, T1, fr1, e1, e2⟩ := hn
    rw [hh] at e1; cases e1
    exact ⟨_, _, _, hh', e2⟩
  · have hp : RC ρ S' w' (Nm ((X, .obj 120 (.agg [.nilp, bv])) :: r)) (.ptr X 0 0 1) [.pointer (some ⟨ρ X, 0, none⟩)] := .ptr (o := 0) (i := 0) (sz := 1) (by simp [Nm, lk])
    exact .obj (.cons hp (.cons (g3.mono hevo _ (fun n h => ⟨h, rfl⟩)) .nil)) hcel
theorem cc_used (X : Nat) (bv : AV) (r : Ents) : FnR Try.prog G 71 [.ptr X 0 0 1] ((X, .obj 120 (.agg [.ptr X 0 0 1, bv])) :: r) (.tup []) ((X, .obj 120 (.agg [.ptr X 0 0 1, bv])) :: r) := by
  refine FnR.write1 (fun B ρ w hmem hent => ⟨w, ?_, fun _ _ => rfl, rfl, rfl, rfl, rfl, fun _ h => h, fun S' hevo => hent.mono hevo (fun n h => ⟨h, rfl⟩) rfl⟩)
  cases hent with
  | obj hr hb =>
  rename_i cs
  cases hr with
  | cons g1 g2 =>
  cases g1
  exact Any.Builder_copyCheck_used lays240 ex72 (ρ X) w (by rw [hb.cell]; rfl)
theorem call71 : Callable Try.prog 71 := ⟨_, Try.func71, by kernel_rfl, by kernel_rfl⟩
end Go.Proofs.Ytbefcdgjainflaa
