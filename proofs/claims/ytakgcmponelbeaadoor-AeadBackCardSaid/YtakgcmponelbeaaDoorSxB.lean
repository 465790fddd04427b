/- The blocks that a call owns, and what each step keeps. -/
import Derived.Test.YtakgcmponelbeaaDoorSxA
set_option linter.unusedVariables false
set_option linter.unusedSimpArgs false
namespace Sx
open Go

/-- Elements one behind the other. -/
inductive Row where
  | ints (k : IntKind) (xs : List Int)
  | strs (ss : List ByteArray)
  | avs (sz : Nat) (l : List AV)
  deriving Inhabited

/-- What a block of one's own holds: one value, or a row that may have room behind it. -/
inductive Ent where
  | obj (T : TypeId) (v : AV)
  | vec (T : TypeId) (r : Row)
  deriving Inhabited

def lk {α : Type} : List (Nat × α) → Nat → Option α
  | [], _ => none
  | (k, a) :: l, n => if k = n then some a else lk l n

abbrev Ents := List (Nat × Ent)

inductive RowC (ρ : Nat → Nat) (S : Nat → Prop) (w : World) (N : Nat → Prop) : Row → List Value → Prop
  | ints {k xs} : RowC ρ S w N (.ints k xs) (xs.map (Value.int k))
  | strs {ss} : RowC ρ S w N (.strs ss) (ss.map Value.string)
  | nil {sz} : RowC ρ S w N (.avs sz []) []
  | cons {sz x l a b} (h1 : RC ρ S w N x a) (hz : a.length = sz) (h2 : RowC ρ S w N (.avs sz l) b) : RowC ρ S w N (.avs sz (x :: l)) (a ++ b)

/-- Block b's cells; no cell of them is frozen. -/
def Cel (w : World) (b : Nat) (c : Array Value) (T : TypeId) : Prop := ∃ fr : Nat × Nat, w.heap[b]? = some (Obj.cells c T fr) ∧ (fr = (0, 0) ∨ fr = (c.size, c.size + 1))
theorem Cel.rw {w : World} {b : Nat} {c : Array Value} {T : TypeId} (h : Cel w b c T) : Rw w b c.size := by obtain ⟨fr, h, _⟩ := h; exact ⟨c, T, fr, h, rfl⟩
theorem Cel.lt {w : World} {b : Nat} {c : Array Value} {T : TypeId} (h : Cel w b c T) : b < w.heap.size := h.rw.lt
theorem Cel.congr {w w' : World} {b : Nat} {c : Array Value} {T : TypeId} (e : w'.heap[b]? = w.heap[b]?) (h : Cel w b c T) : Cel w' b c T := by obtain ⟨fr, h, h2⟩ := h; exact ⟨fr, e.trans h, h2⟩
theorem Cel.inj {w : World} {b : Nat} {c c' : Array Value} {T T' : TypeId} (h : Cel w b c T) (h' : Cel w b c' T') : c' = c ∧ T' = T := by
  obtain ⟨fr, h, _⟩ := h
  obtain ⟨fr', h', _⟩ := h'
  rw [h] at h'; cases h'; exact ⟨rfl, rfl⟩
theorem Cel.cell {w : World} {b : Nat} {c : Array Value} {T : TypeId} (h : Cel w b c T) (j : Nat) : w.cell? ⟨b, j, none⟩ = c[j]? := by obtain ⟨fr, h, _⟩ := h; simp [World.cell?, h]
theorem Cel.frozen {w : World} {b : Nat} {c : Array Value} {T : TypeId} (h : Cel w b c T) {j : Nat} (hj : j < c.size) : w.frozen? ⟨b, j, none⟩ = false := by
  obtain ⟨fr, h, hfr⟩ := h
  rcases hfr with rfl | rfl <;> simp [World.frozen?, h] <;> omega
/-- Block b holds it. -/
inductive EntR (ρ : Nat → Nat) (S : Nat → Prop) (w : World) (N : Nat → Prop) (b : Nat) : Ent → Prop
  | obj {T v cs} (h : RC ρ S w N v cs) (hb : Cel w b cs.toArray T) : EntR ρ S w N b (.obj T v)
  | vec {T r cs c} (h : RowC ρ S w N r cs) (hb : Cel w b c T) (hc : c.toList.take cs.length = cs) : EntR ρ S w N b (.vec T r)

theorem RowC.mono {ρ ρ' : Nat → Nat} {S S' : Nat → Prop} {w w' : World} {N N' : Nat → Prop} {r : Row} {cs : List Value} (h : RowC ρ S w N r cs) (he : Evo S S' w w')
    (hN : ∀ n, N n → N' n ∧ ρ' n = ρ n) : RowC ρ' S' w' N' r cs := by
  induction h with
  | ints => exact .ints
  | strs => exact .strs
  | nil => exact .nil
  | cons h1 hz _ ih => exact .cons (h1.mono he N' hN) hz ih

theorem EntR.mono {ρ ρ' : Nat → Nat} {S S' : Nat → Prop} {w w' : World} {N N' : Nat → Prop} {b : Nat} {x : Ent} (h : EntR ρ S w N b x) (he : Evo S S' w w')
    (hN : ∀ n, N n → N' n ∧ ρ' n = ρ n) (hb : w'.heap[b]? = w.heap[b]?) : EntR ρ' S' w' N' b x := by
  cases h with
  | obj h h1 => exact .obj (h.mono he N' hN) (h1.congr hb)
  | vec h h1 h2 => exact .vec (h.mono he hN) (h1.congr hb) h2

/-- The blocks that are there and that no entry owns. -/
def Stab (B : Nat → Prop) (ρ : Nat → Nat) (e : Ents) (w : World) (b : Nat) : Prop := B b ∧ b < w.heap.size ∧ ∀ m x, lk e m = some x → ρ m ≠ b

/-- The entries hold in the world. -/
structure Mem (B : Nat → Prop) (ρ : Nat → Nat) (D : Nat → Prop) (e : Ents) (w : World) : Prop where
  en : ∀ m x, lk e m = some x → D m ∧ EntR ρ (Stab B ρ e w) w D (ρ m) x
  inj : ∀ m m' x x', lk e m = some x → lk e m' = some x' → ρ m = ρ m' → m = m'

/-- What a step keeps. -/
structure Evol (B : Nat → Prop) (ρ : Nat → Nat) (D : Nat → Prop) (e : Ents) (w : World) (ρ' : Nat → Nat) (D' : Nat → Prop) (e' : Ents) (w' : World) : Prop where
  evo : Evo (Stab B ρ e w) (Stab B ρ' e' w') w w'
  agree : ∀ n, D n → D' n ∧ ρ' n = ρ n
  fresh : ∀ m x, lk e' m = some x → (∃ m0 x0, lk e m0 = some x0 ∧ ρ' m = ρ m0) ∨ w.heap.size ≤ ρ' m
  size : w.heap.size ≤ w'.heap.size
  os : w'.os = w.os
  out : w'.output = w.output
  tape : w'.tape = w.tape
  others : ∀ b : Nat, b < w.heap.size → (∀ m x, lk e m = some x → ρ m ≠ b) → w'.heap[b]? = w.heap[b]?

/-- A tmp's value. -/
inductive RV (ρ : Nat → Nat) (S : Nat → Prop) (w : World) (N : Nat → Prop) : AV → Value → Prop
  | one {a cs} (h : RC ρ S w N a cs) : RV ρ S w N a (shape a cs)
  | tup {l : List AV} {vs : List Value} (hl : vs.length = l.length) (h : ∀ (i : Nat) (x : AV), l[i]? = some x → ∃ cs, RC ρ S w N x cs ∧ vs[i]? = some (shape x cs)) : RV ρ S w N (.tup l) (.tuple vs.toArray)

theorem RV.mono {ρ ρ' : Nat → Nat} {S S' : Nat → Prop} {w w' : World} {N N' : Nat → Prop} {a : AV} {v : Value} (h : RV ρ S w N a v) (he : Evo S S' w w')
    (hN : ∀ n, N n → N' n ∧ ρ' n = ρ n) : RV ρ' S' w' N' a v := by
  cases h with
  | one h => exact .one (h.mono he N' hN)
  | tup hl h => exact .tup hl (fun i x hi => let ⟨cs, h1, h2⟩ := h i x hi; ⟨cs, h1.mono he N' hN, h2⟩)

theorem Evol.refl {B : Nat → Prop} {ρ : Nat → Nat} {D : Nat → Prop} {e : Ents} (w : World) : Evol B ρ D e w ρ D e w :=
  ⟨Evo.refl w, fun _ h => ⟨h, rfl⟩, fun m x h => .inl ⟨m, x, h, rfl⟩, Nat.le_refl _, rfl, rfl, rfl, fun _ _ _ => rfl⟩

theorem Evol.trans {B : Nat → Prop} {ρ ρ' ρ'' : Nat → Nat} {D D' D'' : Nat → Prop} {e e' e'' : Ents} {w w' w'' : World}
    (h : Evol B ρ D e w ρ' D' e' w') (h' : Evol B ρ' D' e' w' ρ'' D'' e'' w'') : Evol B ρ D e w ρ'' D'' e'' w'' where
  evo := h.evo.trans h'.evo
  agree n hn := ⟨(h'.agree n (h.agree n hn).1).1, (h'.agree n (h.agree n hn).1).2.trans (h.agree n hn).2⟩
  fresh m x hm := by
    rcases h'.fresh m x hm with ⟨m0, x0, h0, e0⟩ | hf
    · rcases h.fresh m0 x0 h0 with ⟨m1, x1, h1, e1⟩ | hf
      · exact .inl ⟨m1, x1, h1, e0.trans e1⟩
      · exact .inr (e0 ▸ hf)
    · exact .inr (Nat.le_trans h.size hf)
  size := Nat.le_trans h.size h'.size
  os := h'.os.trans h.os
  out := h'.out.trans h.out
  tape := h'.tape.trans h.tape
  others b hb hn := (h'.others b (Nat.lt_of_lt_of_le hb h.size) (fun m x hm => by
    rcases h.fresh m x hm with ⟨m0, x0, h0, e0⟩ | hf
    · rw [e0]; exact hn m0 x0 h0
    · omega)).trans (h.others b hb hn)

theorem Mem.block_lt {B : Nat → Prop} {ρ : Nat → Nat} {D : Nat → Prop} {e : Ents} {w : World} (h : Mem B ρ D e w) {m : Nat} {x : Ent} (hm : lk e m = some x) : ρ m < w.heap.size := by
  have h2 := (h.en m x hm).2
  cases h2 with
  | obj _ hb => exact hb.lt
  | vec _ hb _ => exact hb.lt

theorem alloc_old (w : World) (o : Obj) (b : Nat) (h : b < w.heap.size) : (w.alloc o).heap[b]? = w.heap[b]? := by
  show (w.heap.push o)[b]? = _
  rw [Array.getElem?_push, if_neg (by omega)]
theorem alloc_new (w : World) (o : Obj) : (w.alloc o).heap[w.heap.size]? = some o := by
  show (w.heap.push o)[w.heap.size]? = _
  rw [Array.getElem?_push, if_pos rfl]
theorem Cel.new (w : World) (c : Array Value) (T : TypeId) : Cel (w.alloc (.cells c T)) w.heap.size c T := ⟨(0, 0), alloc_new w _, .inl rfl⟩

/-- A new block of one's own. -/
theorem Mem.alloc {B : Nat → Prop} {ρ : Nat → Nat} {D : Nat → Prop} {e e' : Ents} {w : World} (h : Mem B ρ D e w) (nb : Nat) (hnb : ¬ D nb) (o : Obj) (x : Ent) (he : ∀ m, lk e' m = if nb = m then some x else lk e m)
    (hx : ∀ (ρ' : Nat → Nat) (D' : Nat → Prop), (∀ n, D n → D' n ∧ ρ' n = ρ n) → Evo (Stab B ρ e w) (Stab B ρ' e' (w.alloc o)) w (w.alloc o) → EntR ρ' (Stab B ρ' e' (w.alloc o)) (w.alloc o) D' w.heap.size x) :
    ∃ ρ', ρ' nb = w.heap.size ∧ Mem B ρ' (fun n => D n ∨ n = nb) e' (w.alloc o) ∧ Evol B ρ D e w ρ' (fun n => D n ∨ n = nb) e' (w.alloc o) := by
  let ρ' : Nat → Nat := fun n => if n = nb then w.heap.size else ρ n
  have h1 : ρ' nb = w.heap.size := by simp [ρ']
  have hag : ∀ n, D n → (D n ∨ n = nb) ∧ ρ' n = ρ n := fun n hn => ⟨.inl hn, by simp only [ρ']; rw [if_neg]; rintro rfl; exact hnb hn⟩
  have hsz : (w.alloc o).heap.size = w.heap.size + 1 := by show (w.heap.push o).size = _; simp
  have hold : ∀ b : Nat, b < w.heap.size → (w.alloc o).heap[b]? = w.heap[b]? := fun b hb => alloc_old w o b hb
  have hlk : ∀ m y, lk e' m = some y → (m = nb ∧ y = x) ∨ (m ≠ nb ∧ lk e m = some y) := by
    intro m y hm
    rw [he] at hm
    by_cases hq : nb = m
    · rw [if_pos hq] at hm; cases hm; exact .inl ⟨hq.symm, rfl⟩
    · rw [if_neg hq] at hm; exact .inr ⟨fun q => hq q.symm, hm⟩
  have hstab : ∀ b, Stab B ρ e w b → Stab B ρ' e' (w.alloc o) b := by
    intro b hb
    refine ⟨hb.1, by rw [hsz]; exact Nat.lt_succ_of_lt hb.2.1, fun m y hm => ?_⟩
    rcases hlk m y hm with ⟨rfl, _⟩ | ⟨_, hm'⟩
    · rw [h1]; exact fun q => Nat.lt_irrefl _ (q ▸ hb.2.1)
    · rw [(hag m (h.en m y hm').1).2]; exact hb.2.2 m y hm'
  have hevo : Evo (Stab B ρ e w) (Stab B ρ' e' (w.alloc o)) w (w.alloc o) :=
    ⟨fun b hb => ⟨hstab b hb, hold b hb.2.1⟩, fun b n hb => hb.congr (hold b hb.lt)⟩
  refine ⟨ρ', h1, ⟨fun m y hm => ?_, fun m m' y y' hm hm' hq => ?_⟩, hevo, hag, fun m y hm => ?_, by rw [hsz]; exact Nat.le_succ _, rfl, rfl, rfl, fun b hb _ => hold b hb⟩
  · rcases hlk m y hm with ⟨rfl, rfl⟩ | ⟨_, hm'⟩
    · exact ⟨.inr rfl, by rw [h1]; exact hx ρ' _ hag hevo⟩
    · have := h.en m y hm'
      refine ⟨.inl this.1, ?_⟩
      rw [(hag m this.1).2]
      exact this.2.mono hevo hag (hold _ (h.block_lt hm'))
  · rcases hlk m y hm with ⟨rfl, _⟩ | ⟨_, hm1⟩ <;> rcases hlk m' y' hm' with ⟨rfl, _⟩ | ⟨_, hm2⟩
    · rfl
    · rw [h1, (hag m' (h.en _ _ hm2).1).2] at hq
      exact absurd (h.block_lt hm2) (by omega)
    · rw [h1, (hag m (h.en _ _ hm1).1).2] at hq
      exact absurd (h.block_lt hm1) (by omega)
    · rw [(hag m (h.en _ _ hm1).1).2, (hag m' (h.en _ _ hm2).1).2] at hq
      exact h.inj m m' y y' hm1 hm2 hq
  · rcases hlk m y hm with ⟨rfl, _⟩ | ⟨_, hm'⟩
    · exact .inr (by rw [h1]; exact Nat.le_refl _)
    · exact .inl ⟨m, y, hm', (hag m (h.en m y hm').1).2⟩

/-- A world with the same blocks. -/
theorem Mem.same {B : Nat → Prop} {ρ : Nat → Nat} {D : Nat → Prop} {e : Ents} {w w' : World} (h : Mem B ρ D e w) (hh : w'.heap = w.heap) (h1 : w'.os = w.os) (h2 : w'.output = w.output) (h3 : w'.tape = w.tape) :
    Mem B ρ D e w' ∧ Evol B ρ D e w ρ D e w' := by
  have hs : ∀ b, Stab B ρ e w b → Stab B ρ e w' b := fun b hb => ⟨hb.1, by rw [hh]; exact hb.2.1, hb.2.2⟩
  have hevo : Evo (Stab B ρ e w) (Stab B ρ e w') w w' := ⟨fun b hb => ⟨hs b hb, by rw [hh]⟩, fun b n hb => hb.congr (by rw [hh])⟩
  exact ⟨⟨fun m x hm => ⟨(h.en m x hm).1, (h.en m x hm).2.mono hevo (fun n hn => ⟨hn, rfl⟩) (by rw [hh])⟩, h.inj⟩,
    hevo, fun n hn => ⟨hn, rfl⟩, fun m x hm => .inl ⟨m, x, hm, rfl⟩, by rw [hh]; exact Nat.le_refl _, h1, h2, h3, fun _ _ _ => by rw [hh]⟩

/-- A new block that nobody writes. -/
theorem Mem.allocStable {B : Nat → Prop} {ρ : Nat → Nat} {D : Nat → Prop} {e : Ents} {w : World} (h : Mem B ρ D e w) (hB : B w.heap.size) (o : Obj) :
    Mem B ρ D e (w.alloc o) ∧ Evol B ρ D e w ρ D e (w.alloc o) ∧ Stab B ρ e (w.alloc o) w.heap.size := by
  have hsz : (w.alloc o).heap.size = w.heap.size + 1 := by show (w.heap.push o).size = _; simp
  have hold : ∀ b : Nat, b < w.heap.size → (w.alloc o).heap[b]? = w.heap[b]? := fun b hb => alloc_old w o b hb
  have hevo : Evo (Stab B ρ e w) (Stab B ρ e (w.alloc o)) w (w.alloc o) :=
    ⟨fun b hb => ⟨⟨hb.1, by rw [hsz]; exact Nat.lt_succ_of_lt hb.2.1, hb.2.2⟩, hold b hb.2.1⟩, fun b n hb => hb.congr (hold b hb.lt)⟩
  refine ⟨⟨fun m x hm => ⟨(h.en m x hm).1, (h.en m x hm).2.mono hevo (fun n hn => ⟨hn, rfl⟩) (hold _ (h.block_lt hm))⟩, h.inj⟩,
    ⟨hevo, fun n hn => ⟨hn, rfl⟩, fun m x hm => .inl ⟨m, x, hm, rfl⟩, by rw [hsz]; exact Nat.le_succ _, rfl, rfl, rfl, fun b hb _ => hold b hb⟩, hB, by rw [hsz]; exact Nat.lt_succ_self _, fun m x hm => ?_⟩
  have := h.block_lt hm
  omega

/-- What an entry's block holds is written anew. -/
theorem Mem.write {B : Nat → Prop} {ρ : Nat → Nat} {D : Nat → Prop} {e e' : Ents} {w w' : World} (h : Mem B ρ D e w) {m : Nat} {x x' : Ent} (hm : lk e m = some x) (he : ∀ n, lk e' n = if m = n then some x' else lk e n)
    (hother : ∀ b : Nat, b ≠ ρ m → w'.heap[b]? = w.heap[b]?) (hsize : w'.heap.size = w.heap.size) (h1 : w'.os = w.os) (h2 : w'.output = w.output) (h3 : w'.tape = w.tape)
    (hc : ∀ n : Nat, Rw w (ρ m) n → Rw w' (ρ m) n)
    (hx : Evo (Stab B ρ e w) (Stab B ρ e' w') w w' → EntR ρ (Stab B ρ e' w') w' D (ρ m) x') :
    Mem B ρ D e' w' ∧ Evol B ρ D e w ρ D e' w' := by
  have hlk : ∀ n y, lk e' n = some y → (n = m ∧ y = x') ∨ (n ≠ m ∧ lk e n = some y) := by
    intro n y hn
    rw [he] at hn
    by_cases hq : m = n
    · rw [if_pos hq] at hn; cases hn; exact .inl ⟨hq.symm, rfl⟩
    · rw [if_neg hq] at hn; exact .inr ⟨fun q => hq q.symm, hn⟩
  have hevo : Evo (Stab B ρ e w) (Stab B ρ e' w') w w' := by
    refine ⟨fun b hb => ⟨⟨hb.1, by rw [hsize]; exact hb.2.1, fun n y hn => ?_⟩, hother b (fun q => hb.2.2 m x hm q.symm)⟩, fun b z hb => ?_⟩
    · rcases hlk n y hn with ⟨rfl, _⟩ | ⟨_, hn'⟩
      · exact hb.2.2 _ x hm
      · exact hb.2.2 n y hn'
    · by_cases hq : b = ρ m
      · subst hq; exact hc z hb
      · exact hb.congr (hother b hq)
  refine ⟨⟨fun n y hn => ?_, fun n n' y y' hn hn' hq => ?_⟩, hevo, fun n hn => ⟨hn, rfl⟩, fun n y hn => ?_, by rw [hsize]; exact Nat.le_refl _, h1, h2, h3, fun b _ hn => hother b (fun q => hn m x hm q.symm)⟩
  · rcases hlk n y hn with ⟨rfl, rfl⟩ | ⟨hne, hn'⟩
    · exact ⟨(h.en _ _ hm).1, hx hevo⟩
    · exact ⟨(h.en n y hn').1, (h.en n y hn').2.mono hevo (fun n hn => ⟨hn, rfl⟩) (hother _ (fun q => hne (h.inj _ _ _ _ hn' hm q)))⟩
  · rcases hlk n y hn with ⟨rfl, _⟩ | ⟨_, hn1⟩ <;> rcases hlk n' y' hn' with ⟨rfl, _⟩ | ⟨_, hn2⟩
    · rfl
    · exact h.inj _ _ _ _ hm hn2 hq
    · exact h.inj _ _ _ _ hn1 hm hq
    · exact h.inj _ _ _ _ hn1 hn2 hq
  · rcases hlk n y hn with ⟨rfl, _⟩ | ⟨_, hn'⟩
    · exact .inl ⟨_, x, hm, rfl⟩
    · exact .inl ⟨n, y, hn', rfl⟩

/-- A row goes on under a new name: in its own block, or in a new one. -/
theorem Mem.move {B : Nat → Prop} {ρ : Nat → Nat} {D : Nat → Prop} {e e' : Ents} {w w' : World} (h : Mem B ρ D e w) {m nb g : Nat} {x x' : Ent} (hm : lk e m = some x) (hnb : ¬ D nb)
    (he : ∀ n, lk e' n = if nb = n then some x' else if m = n then none else lk e n)
    (hother : ∀ b : Nat, b < w.heap.size → b ≠ ρ m → w'.heap[b]? = w.heap[b]?) (hsize : w.heap.size ≤ w'.heap.size) (h1 : w'.os = w.os) (h2 : w'.output = w.output) (h3 : w'.tape = w.tape)
    (hc : ∀ n : Nat, Rw w (ρ m) n → Rw w' (ρ m) n)
    (hg : g = ρ m ∨ w.heap.size ≤ g)
    (hx : ∀ (ρ' : Nat → Nat) (D' : Nat → Prop), (∀ n, D n → D' n ∧ ρ' n = ρ n) → Evo (Stab B ρ e w) (Stab B ρ' e' w') w w' → EntR ρ' (Stab B ρ' e' w') w' D' g x') :
    ∃ ρ', ρ' nb = g ∧ Mem B ρ' (fun n => D n ∨ n = nb) e' w' ∧ Evol B ρ D e w ρ' (fun n => D n ∨ n = nb) e' w' := by
  let ρ' : Nat → Nat := fun n => if n = nb then g else ρ n
  have hρ : ρ' nb = g := by simp [ρ']
  have hag : ∀ n, D n → (D n ∨ n = nb) ∧ ρ' n = ρ n := fun n hn => ⟨.inl hn, by simp only [ρ']; rw [if_neg]; rintro rfl; exact hnb hn⟩
  have hlk : ∀ n y, lk e' n = some y → (n = nb ∧ y = x') ∨ (n ≠ nb ∧ n ≠ m ∧ lk e n = some y) := by
    intro n y hn
    rw [he] at hn
    by_cases hq : nb = n
    · rw [if_pos hq] at hn; cases hn; exact .inl ⟨hq.symm, rfl⟩
    · rw [if_neg hq] at hn
      by_cases hq' : m = n
      · rw [if_pos hq'] at hn; cases hn
      · rw [if_neg hq'] at hn; exact .inr ⟨fun q => hq q.symm, fun q => hq' q.symm, hn⟩
  have hevo : Evo (Stab B ρ e w) (Stab B ρ' e' w') w w' := by
    refine ⟨fun b hb => ⟨⟨hb.1, Nat.lt_of_lt_of_le hb.2.1 hsize, fun n y hn => ?_⟩, hother b hb.2.1 (fun q => hb.2.2 m x hm q.symm)⟩, fun b z hb => ?_⟩
    · rcases hlk n y hn with ⟨rfl, _⟩ | ⟨_, _, hn'⟩
      · rw [hρ]
        rcases hg with rfl | hg
        · exact hb.2.2 m x hm
        · exact fun q => absurd hb.2.1 (by omega)
      · rw [(hag n (h.en n y hn').1).2]; exact hb.2.2 n y hn'
    · by_cases hq : b = ρ m
      · subst hq; exact hc z hb
      · exact hb.congr (hother b hb.lt hq)
  refine ⟨ρ', hρ, ⟨fun n y hn => ?_, fun n n' y y' hn hn' hq => ?_⟩, hevo, hag, fun n y hn => ?_, hsize, h1, h2, h3, fun b hb hn => hother b hb (fun q => hn m x hm q.symm)⟩
  · rcases hlk n y hn with ⟨rfl, rfl⟩ | ⟨_, hne, hn'⟩
    · exact ⟨.inr rfl, by rw [hρ]; exact hx ρ' _ hag hevo⟩
    · have := h.en n y hn'
      refine ⟨.inl this.1, ?_⟩
      rw [(hag n this.1).2]
      exact this.2.mono hevo hag (hother _ (h.block_lt hn') (fun q => hne (h.inj _ _ _ _ hn' hm q)))
  · rcases hlk n y hn with ⟨rfl, _⟩ | ⟨_, hne1, hn1⟩ <;> rcases hlk n' y' hn' with ⟨rfl, _⟩ | ⟨_, hne2, hn2⟩
    · rfl
    · rw [hρ, (hag n' (h.en _ _ hn2).1).2] at hq
      rcases hg with rfl | hg
      · exact absurd (h.inj _ _ _ _ hm hn2 hq).symm hne2
      · exact absurd (h.block_lt hn2) (by omega)
    · rw [hρ, (hag n (h.en _ _ hn1).1).2] at hq
      rcases hg with rfl | hg
      · exact absurd (h.inj _ _ _ _ hn1 hm hq) hne1
      · exact absurd (h.block_lt hn1) (by omega)
    · rw [(hag n (h.en _ _ hn1).1).2, (hag n' (h.en _ _ hn2).1).2] at hq
      exact h.inj n n' y y' hn1 hn2 hq
  · rcases hlk n y hn with ⟨rfl, _⟩ | ⟨_, _, hn'⟩
    · rw [hρ]
      rcases hg with rfl | hg
      · exact .inl ⟨m, x, hm, rfl⟩
      · exact .inr hg
    · exact .inl ⟨n, y, hn', (hag n (h.en n y hn').1).2⟩

end Sx
