/- Contracts of functions, and calls by contract. -/
import Derived.Test.YtakgcmponelbeaaDoorSxD
set_option linter.unusedVariables false
set_option linter.unusedSimpArgs false
namespace Sx
open Go

/-- The names of entries. -/
def Nm (h : Ents) (n : Nat) : Prop := (lk h n).isSome = true

/-- What a call keeps. -/
structure Kept (B : Nat → Prop) (ρ : Nat → Nat) (h : Ents) (w : World) (ρ' : Nat → Nat) (h' : Ents) (w' : World) : Prop where
  evo : Evo (Stab B ρ h w) (Stab B ρ' h' w') w w'
  agree : ∀ n, Nm h n → Nm h' n → ρ' n = ρ n
  fresh : ∀ m x, lk h' m = some x → (∃ m0 x0, lk h m0 = some x0 ∧ ρ' m = ρ m0) ∨ w.heap.size ≤ ρ' m
  size : w.heap.size ≤ w'.heap.size
  os : w'.os = w.os
  out : w'.output = w.output
  tape : w'.tape = w.tape
  others : ∀ b : Nat, b < w.heap.size → (∀ m x, lk h m = some x → ρ m ≠ b) → w'.heap[b]? = w.heap[b]?

def GL (G : Nat → Option AV) (ρ : Nat → Nat) (S : Nat → Prop) (w : World) : Prop := ∀ g x, G g = some x → RC ρ S w NoNm (.pel x) [.pointer (some ⟨g, 0, none⟩)]

/-- The contract of a function: of these arguments, and these entries, comes this result, and those entries. -/
def FnR (P : Program) (G : Nat → Option AV) (f : FuncId) (args : List AV) (h : Ents) (r : AV) (h' : Ents) : Prop :=
  ∀ (B : Nat → Prop) (ρ : Nat → Nat) (w : World) (vs : List Value), (∀ b, w.heap.size ≤ b → B b) → Mem B ρ (Nm h) h w → GL G ρ (Stab B ρ h w) w → vs.length = args.length →
    (∀ (i : Nat) x, args[i]? = some x → ∃ v, vs[i]? = some v ∧ RV ρ (Stab B ρ h w) w (Nm h) x v) →
    Calls P f vs.toArray w fun e w' => ∃ x ρ', e = .returned x ∧ RV ρ' (Stab B ρ' h' w') w' (Nm h') r x ∧ Mem B ρ' (Nm h') h' w' ∧ Kept B ρ h w ρ' h' w'

mutual
/-- Names no memory that is by value: neither slices by value nor pointers into what nobody writes. -/
def AV.free : AV → Bool
  | .agg cs => AV.freeL cs
  | .tup l => AV.freeL l
  | .pel _ => false
  | .lstI _ _ => false
  | .lstS _ => false
  | .lst _ _ => false
  | .fn _ cap => AV.freeL cap
  | .ifc _ v => AV.free v
  | _ => true
def AV.freeL : List AV → Bool
  | [] => true
  | a :: l => AV.free a && AV.freeL l
end
theorem AV.freeL_get : ∀ {l : List AV}, AV.freeL l = true → ∀ (i : Nat) x, l[i]? = some x → AV.free x = true
  | [], _, i, x, h => by simp at h
  | a :: l, hb, 0, x, h => by rw [AV.freeL, Bool.and_eq_true] at hb; simp at h; subst h; exact hb.1
  | a :: l, hb, i + 1, x, h => by rw [AV.freeL, Bool.and_eq_true] at hb; exact AV.freeL_get (l := l) hb.2 i x (by simpa using h)

theorem RC.freed {ρ : Nat → Nat} {S S' : Nat → Prop} {w : World} {N : Nat → Prop} {a : AV} {cs : List Value} (h : RC ρ S w N a cs) : a.free = true → RC ρ S' w N a cs := by
  induction h with
  | int => intro _; exact .int
  | bool => intro _; exact .bool
  | str => intro _; exact .str
  | ints h => intro _; exact .ints h
  | nil => intro _; exact .nil
  | cons _ _ ih1 ih2 => intro hf; simp only [AV.free, AV.freeL, Bool.and_eq_true] at hf; exact .cons (ih1 hf.1) (ih2 (by simpa only [AV.free] using hf.2))
  | ptr h => intro _; exact .ptr h
  | pel => intro hf; simp [AV.free] at hf
  | sl h ha hl hm hb hc => intro _; exact .sl h ha hl hm hb hc
  | nils => intro _; exact .nils
  | nilp => intro _; exact .nilp
  | nilf => intro _; exact .nilf
  | nili => intro _; exact .nili
  | nilm => intro _; exact .nilm
  | lstI => intro hf; simp [AV.free] at hf
  | lstS => intro hf; simp [AV.free] at hf
  | lst => intro hf; simp [AV.free] at hf
  | fn vs _ ih => intro hf; simp only [AV.free] at hf; exact .fn vs (fun i x hi => ih i x hi (AV.freeL_get hf i x hi))
  | ifc _ ih => intro hf; simp only [AV.free] at hf; exact .ifc (ih hf)
  | mp h => intro _; exact .mp h

mutual
theorem AV.map_id : ∀ a : AV, a.map (fun n => n) = a
  | .int _ _ | .bool _ | .str _ | .ints _ _ _ | .ptr _ _ _ _ | .pel _ | .sl _ _ _ _ | .nils | .nilp | .nilf | .nili | .nilm | .lstI _ _ | .lstS _ | .lst _ _ | .mp _ => by simp [AV.map]
  | .agg cs => by simp only [AV.map, AV.mapL_id cs]
  | .tup l => by simp only [AV.map, AV.mapL_id l]
  | .fn f cap => by simp only [AV.map, AV.mapL_id cap]
  | .ifc t v => by simp only [AV.map, AV.map_id v]
theorem AV.mapL_id : ∀ l : List AV, AV.mapL (fun n => n) l = l
  | [] => by simp [AV.mapL]
  | a :: l => by simp only [AV.mapL, AV.map_id a, AV.mapL_id l]
end
theorem RC.restrict {ρ : Nat → Nat} {S : Nat → Prop} {w : World} {N N' : Nat → Prop} {a : AV} {cs : List Value} (h : RC ρ S w N a cs) (hn : a.nmIn N') : RC ρ S w N' a cs :=
  h.unmap (τ := fun n => n) a N' (AV.map_id a) hn

end Sx
