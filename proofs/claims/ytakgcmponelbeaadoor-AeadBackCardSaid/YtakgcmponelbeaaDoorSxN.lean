/- Steps, with what follows behind a name. -/
import Derived.Test.YtakgcmponelbeaaDoorSxM
import Derived.LoopN
set_option linter.unusedVariables false
set_option linter.unusedSimpArgs false
namespace Sx
open Go

def thn (K : St → Prop) (Q : Exit → St → Prop) : Exit → St → Prop
  | .normal, s => K s
  | z, s => Q z s
def inb (id : Nat) (Q : Exit → St → Prop) : Exit → St → Prop
  | .exit i, s => if i = id then Q .normal s else Q (.exit i) s
  | z, s => Q z s
theorem thn_normal (K : St → Prop) (Q : Exit → St → Prop) (s : St) : thn K Q .normal s = K s := rfl
theorem thn_exit (K : St → Prop) (Q : Exit → St → Prop) (i : Nat) (s : St) : thn K Q (.exit i) s = Q (.exit i) s := rfl
theorem thn_ret (K : St → Prop) (Q : Exit → St → Prop) (s : St) : thn K Q .ret s = Q .ret s := rfl
theorem inb_normal (id : Nat) (Q : Exit → St → Prop) (s : St) : inb id Q .normal s = Q .normal s := rfl
theorem inb_ret (id : Nat) (Q : Exit → St → Prop) (s : St) : inb id Q .ret s = Q .ret s := rfl
theorem inb_exit (id i : Nat) (Q : Exit → St → Prop) (s : St) : inb id Q (.exit i) s = if i = id then Q .normal s else Q (.exit i) s := rfl

section
variable {P : Program} {tt : Nat → Option TI} {G : Nat → Option AV} {h : Ents}
theorem W.seqK {x y : Code} {st : St} {Q : Exit → St → Prop} (hx : ∀ K : St → Prop, (∀ s, W P G h y s Q → K s) → W P G h x st (thn K Q)) : W P G h (.seq x y) st Q :=
  W.seq ((hx _ fun _ h => h).mono fun z s hz => by cases z <;> exact hz)
theorem W.blockK {id : Nat} {c : Code} {st : St} {Q : Exit → St → Prop} (hc : W P G h c st (inb id Q)) : W P G h (.block id c) st Q :=
  W.block (hc.mono fun z s hz => by cases z <;> exact hz)
theorem W.regionK (hTT : TT P tt) {id : Nat} {ops : List Oper} {st : St} {K : St → Prop} {Q : Exit → St → Prop} (hk : exOps P tt G ops ops st K) : W P G h (.region id ops.toArray false) st (thn K Q) :=
  W.region hTT hk

/-- Rounds of a loop, one by one. -/
def WR (P : Program) (G : Nat → Option AV) (h : Ents) (c : Code) (Q : Exit → St → Prop) : Nat → St → Prop
  | 0, _ => False
  | n + 1, st => W P G h c st (thn (WR P G h c Q n) Q)
theorem W.rounds {c : Code} {st : St} {Q : Exit → St → Prop} (n : Nat) (hr : WR P G h c Q n st) : W P G h (.loop c) st Q := by
  intro C a w ha
  refine wp_loop_rounds n ?_
  induction n generalizing st a w with
  | zero => exact hr.elim
  | succ n ih =>
    rw [rounds_succ]
    refine wp_mono (hr C a w ha) ?_
    rintro z a' w' ⟨s, h1, h2⟩
    cases z with
    | normal => exact ih h1 a' w' h2
    | _ => exact ⟨s, h1, h2⟩
theorem WR.next {c : Code} {st : St} {Q : Exit → St → Prop} {n : Nat} (hc : ∀ K : St → Prop, (∀ s, WR P G h c Q n s → K s) → W P G h c st (thn K Q)) : WR P G h c Q (n + 1) st := hc _ fun _ h => h

def leL {α : Type} (t t' : List (Nat × α)) : Prop :=
  match t with
  | [] => True
  | (i, x) :: l => lk t' i = some x ∧ leL l t'
def nmT (n : Nat) : Tms → Prop
  | [] => True
  | (_, x) :: l => x.nmIn (· < n) ∧ nmT n l
def nmE (n : Nat) : Ents → Prop
  | [] => True
  | (m, x) :: l => (m < n ∧ x.nmIn (· < n)) ∧ nmE n l
def nmH (n : Nat) : Ents → Prop
  | [] => True
  | (m, _) :: l => m < n ∧ nmH n l
theorem leL_le {α : Type} {t t' : List (Nat × α)} (hl : leL t t') : Le t t' := by
  induction t with
  | nil => intro i x hx; cases hx
  | cons p t ih =>
    obtain ⟨k, y⟩ := p
    intro i x hx
    simp only [lk] at hx
    split at hx
    · next hq => subst hq; cases hx; exact hl.1
    · exact ih hl.2 i x hx
theorem nmT_get {n : Nat} {t : Tms} (hl : nmT n t) : ∀ i x, lk t i = some x → x.nmIn (· < n) := by
  induction t with
  | nil => intro i x hx; cases hx
  | cons p t ih =>
    obtain ⟨k, y⟩ := p
    intro i x hx
    simp only [lk] at hx
    split at hx
    · cases hx; exact hl.1
    · exact ih hl.2 i x hx
theorem nmE_get {n : Nat} {t : Ents} (hl : nmE n t) : ∀ i x, lk t i = some x → i < n ∧ x.nmIn (· < n) := by
  induction t with
  | nil => intro i x hx; cases hx
  | cons p t ih =>
    obtain ⟨k, y⟩ := p
    intro i x hx
    simp only [lk] at hx
    split at hx
    · next hq => subst hq; cases hx; exact hl.1
    · exact ih hl.2 i x hx
theorem nmH_get {n : Nat} {t : Ents} (hl : nmH n t) : ∀ i, Nm t i → i < n := by
  induction t with
  | nil => intro i hx; cases hx
  | cons p t ih =>
    obtain ⟨k, y⟩ := p
    intro i hx
    simp only [Nm, lk] at hx
    split at hx
    · next hq => subst hq; exact hl.1
    · exact ih hl.2 i hx
/-- Weakening, as a list of facts. -/
def wk (h : Ents) (s s' : St) : Prop := s'.m = s.m ∧ leL s'.t s.t ∧ leL s'.e s.e ∧ nmT s'.n s'.t ∧ nmE s'.n s'.e ∧ nmH s'.n h
theorem Wk.of {s s' : St} (hk : wk h s s') : Wk h s s' := ⟨leL_le hk.2.1, leL_le hk.2.2.1, nmT_get hk.2.2.2.1, nmE_get hk.2.2.2.2.1, nmH_get hk.2.2.2.2.2, hk.1⟩

theorem W.loopK {ι : Type} {c : Code} {st : St} {Q : Exit → St → Prop} (p : ι → Prop) (I : ι → St) (μ : ι → Nat) (i0 : ι) (hp : p i0) (h0 : wk h st (I i0))
    (round : ∀ i, p i → ∀ K : St → Prop, (∀ s j, p j → μ j < μ i → wk h s (I j) → K s) → W P G h c (I i) (thn K Q)) : W P G h (.loop c) st Q :=
  W.loop (ι := { i // p i }) (fun i => I i.1) (fun i => μ i.1) ⟨i0, hp⟩ (Wk.of h0) fun i => (round i.1 i.2 (fun s => ∃ j : { i // p i }, Wk h s (I j.1) ∧ μ j.1 < μ i.1) (fun s j h1 h2 h3 => ⟨⟨j, h1⟩, Wk.of h3, h2⟩)).mono fun z s hz => by cases z <;> exact hz
theorem W.weak {c : Code} {st : St} (st' : St) {Q : Exit → St → Prop} (hk : wk h st st') (hw : W P G h c st' Q) : W P G h c st Q := W.weaken (Wk.of hk) hw
end
end Sx
