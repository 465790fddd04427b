/- strings.Repeat of the byte 0. -/
import Derived.Test.YtbefcdgjainflaaHmC
import Derived.Shelf.Strings.Repeat
set_option linter.unusedVariables false
set_option linter.unusedSectionVars false
set_option linter.unusedSimpArgs false
namespace Sx
open Go
/-- A call of the library that leaves all that was there as it was, and gives a plain value back. -/
theorem FnR.of_below {P : Program} {G : Nat → Option AV} {f : FuncId} {args : List AV} {r : AV} (hp : args.all plain = true) (hr : ∃ x, (∀ ρ S w N, RV ρ S w N r x) ∧
    ∀ w, Calls P f ((args.map fun a => shape a (conc a)).toArray) w fun e w' => e = .returned x ∧ Go.RowKit.Below w.heap.size w w') : FnR P G f args [] r [] := by
  intro B ρ w vs hbig hmem hgl hlen ha
  obtain ⟨x, hx, hc⟩ := hr
  have hvs : vs = args.map fun a => shape a (conc a) := by
    apply List.ext_getElem (by simpa using hlen)
    intro i h1 h2
    have hi : i < args.length := by omega
    obtain ⟨v, hv, hrv⟩ := ha i args[i] (List.getElem?_eq_getElem hi)
    rw [List.getElem?_eq_getElem h1] at hv
    cases hv
    have := plain_val (List.all_eq_true.1 hp _ (List.getElem_mem hi)) hrv
    simp [this]
  subst hvs
  refine (hc w).mono ?_
  rintro e w' ⟨rfl, hb⟩
  exact ⟨x, ρ, rfl, hx _ _ _ _, ⟨fun m x hm => (by cases hm), fun m m' x x' hm => (by cases hm)⟩, ⟨⟨fun b h => ⟨⟨h.1, Nat.lt_of_lt_of_le h.2.1 hb.size, h.2.2⟩, hb.block b h.2.1⟩, fun b n h => h.congr (hb.block b h.lt)⟩, fun n h1 h2 => (by cases h1), fun m x hm => (by cases hm), hb.size, hb.os, hb.output, hb.tape, fun b h1 h2 => hb.block b h1⟩⟩
end Sx
namespace Go.Proofs.Ytbefcdgjainflaa
open Sx Go.Shelf Go.RowKit
variable [Inhabited Tabs]
theorem lays105 : Lays.n105 Try.prog rn := by constructor <;> first | kernel_rfl | (intro w; kernel_rfl)
def zeroS (c : Nat) : ByteArray := ⟨(List.replicate c 0).toArray⟩
theorem repeat_fn (c : Nat) (hc : c ≤ 1000) : FnR Try.prog G 70 [.str { data := #[0] }, .int .i64 c] [] (.str (zeroS c)) [] := by
  refine FnR.of_below rfl ⟨.string (zeroS c), fun _ _ _ _ => .ofStr, fun w => ?_⟩
  have h := Any.strings_Repeat lays105 ex5 { data := #[0] } c w (by omega) (by show 1 * c ≤ _; omega)
  have e : ∀ c, Lib.repeatL [0] c = List.replicate c (0 : UInt8) := by
    intro c
    induction c with
    | zero => rfl
    | succ c ih => simp [Lib.repeatL, ih, List.replicate_succ]
  rw [show ({ data := #[0] } : ByteArray).data.toList = [0] from rfl, e] at h
  exact h
theorem call70 : Callable Try.prog 70 := ⟨_, Try.func70, by kernel_rfl, by kernel_rfl⟩
end Go.Proofs.Ytbefcdgjainflaa
