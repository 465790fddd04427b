/- Code, symbolically: regions in the order of the text, control, functions. -/
import Derived.Test.YtakgcmponelbeaaDoorSxG
import Derived.Test.YtakgcmponelbeaaDoorSxJ
import Derived.Deep.LoopGhost
set_option linter.unusedVariables false
set_option linter.unusedSimpArgs false
namespace Sx
open Go

structure St where
  t : Tms
  e : Ents
  n : Nat
  m : Nat

/-- What stays the same through a function's run. -/
structure Ctx where
  B : Nat → Prop
  ρ : Nat → Nat
  w : World

/-- The state holds. -/
def At (G : Nat → Option AV) (h : Ents) (C : Ctx) (st : St) (a : Act) (w : World) : Prop :=
  ∃ ρ D, Good C.B G ρ D st.t st.e a w ∧ (a.defers = [] ∧ a.tmps.size = st.m) ∧ (∀ n, D n → n < st.n) ∧ Evol C.B C.ρ (Nm h) h C.w ρ D st.e w

/-- From this state the code comes to one of those. -/
def W (P : Program) (G : Nat → Option AV) (h : Ents) (c : Code) (st : St) (Q : Exit → St → Prop) : Prop :=
  ∀ C a w, At G h C st a w → c.wp P (fun x a' w' => ∃ st', Q x st' ∧ At G h C st' a' w') a w

section
variable {P : Program} {G : Nat → Option AV} {h : Ents}

theorem W.mono {c : Code} {st : St} {Q Q' : Exit → St → Prop} (hw : W P G h c st Q) (hq : ∀ x s, Q x s → Q' x s) : W P G h c st Q' :=
  fun C a w ha => wp_mono (hw C a w ha) (fun x a' w' ⟨s, h1, h2⟩ => ⟨s, hq x s h1, h2⟩)

theorem W.seq {x y : Code} {st : St} {Q : Exit → St → Prop} (hx : W P G h x st (fun z s => match z with | .normal => W P G h y s Q | z => Q z s)) : W P G h (.seq x y) st Q := by
  intro C a w ha
  refine wp_seq (wp_mono (hx C a w ha) ?_)
  rintro z a' w' ⟨s, h1, h2⟩
  cases z with
  | normal => exact h1 C a' w' h2
  | _ => exact ⟨s, h1, h2⟩
theorem W.skip {st : St} {Q : Exit → St → Prop} (hq : Q .normal st) : W P G h .skip st Q := fun C a w ha => wp_skip ⟨st, hq, ha⟩
theorem W.ret {st : St} {Q : Exit → St → Prop} (hq : Q .ret st) : W P G h .ret st Q := fun C a w ha => wp_ret ⟨st, hq, ha⟩
theorem W.exit {id : Nat} {st : St} {Q : Exit → St → Prop} (hq : Q (.exit id) st) : W P G h (.exit id) st Q := fun C a w ha => wp_exit ⟨st, hq, ha⟩
theorem W.block {id : Nat} {c : Code} {st : St} {Q : Exit → St → Prop} (hc : W P G h c st (fun z s => match z with | .exit id' => if id' = id then Q .normal s else Q (.exit id') s | z => Q z s)) : W P G h (.block id c) st Q := by
  intro C a w ha
  refine wp_block (wp_mono (hc C a w ha) ?_)
  rintro z a' w' ⟨s, h1, h2⟩
  cases z with
  | exit id' =>
    simp only [Exit.inBlock]
    split
    · next hq => subst hq; simp only [if_true] at h1; exact ⟨s, h1, h2⟩
    · next hq => simp only [if_neg hq] at h1; exact ⟨s, h1, h2⟩
  | _ => exact ⟨s, h1, h2⟩
theorem W.cond {c : Operand} {x y : Code} {st : St} {b : Bool} {Q : Exit → St → Prop} (hc : ev G st.t c = some (.bool b)) (hx : b = true → W P G h x st Q) (hy : b = false → W P G h y st Q) : W P G h (.cond c x y) st Q := by
  intro C a w ha
  obtain ⟨ρ, D, hg, _⟩ := id ha
  exact wp_cond_split (ev_sound hg (fun _ _ h => h) hc).bool_inv (fun hb => hx hb C a w ha) (fun hb => hy hb C a w ha)

/-- Fewer facts, and names that are free again. -/
structure Wk (h : Ents) (st st' : St) : Prop where
  t : Le st'.t st.t
  e : Le st'.e st.e
  nt : ∀ i x, lk st'.t i = some x → x.nmIn (· < st'.n)
  ne : ∀ m x, lk st'.e m = some x → m < st'.n ∧ x.nmIn (· < st'.n)
  nh : ∀ m, Nm h m → m < st'.n
  m : st'.m = st.m

theorem At.weaken {st st' : St} (hk : Wk h st st') {C : Ctx} {a : Act} {w : World} (ha : At G h C st a w) : At G h C st' a w := by
  obtain ⟨ρ, D, hg, hd, hD, hev⟩ := ha
  have hS : ∀ b, Stab C.B ρ st.e w b → Stab C.B ρ st'.e w b := fun b hb => ⟨hb.1, hb.2.1, fun m x hm => hb.2.2 m x (hk.e _ _ hm)⟩
  have hself : Evo (Stab C.B ρ st.e w) (Stab C.B ρ st'.e w) w w := ⟨fun b hb => ⟨hS b hb, rfl⟩, fun b n hb => hb⟩
  -- the names that are still spoken of
  let D' : Nat → Prop := fun n => n < st'.n ∧ D n
  have sub : ∀ n, D' n → D' n ∧ ρ n = ρ n := fun n hn => ⟨hn, rfl⟩
  have both : ∀ {x : AV} {v : Value} {S : Nat → Prop}, RV ρ S w D x v → x.nmIn (· < st'.n) → RV ρ S w D' x v := by
    intro x v S h1 h2
    exact RV.restrict2 h1 h2
  refine ⟨ρ, D', ⟨⟨fun m x hm => ?_, fun m m' x x' hm hm' hq => hg.mem.inj m m' x x' (hk.e _ _ hm) (hk.e _ _ hm') hq⟩, fun i x hi => ?_, hg.big, fun g x hx => (hg.gl g x hx).mono hself NoNm (fun _ h => h.elim)⟩, ⟨hd.1, hd.2.trans hk.m.symm⟩, fun n hn => hn.1,
    ⟨fun b hb => ⟨hS b (hev.evo.stable b hb).1, (hev.evo.stable b hb).2⟩, hev.evo.sized⟩, fun n hn => ⟨⟨hk.nh n hn, (hev.agree n hn).1⟩, (hev.agree n hn).2⟩, fun m x hm => hev.fresh m x (hk.e _ _ hm), hev.size, hev.os, hev.out, hev.tape, hev.others⟩
  · have h1 := hg.mem.en m x (hk.e _ _ hm)
    exact ⟨⟨(hk.ne m x hm).1, h1.1⟩, (EntR.restrict2 h1.2 (hk.ne m x hm).2).mono hself sub rfl⟩
  · obtain ⟨v, h1, h2⟩ := hg.tm i x (hk.t _ _ hi)
    exact ⟨v, h1, (both h2 (hk.nt i x hi)).mono hself sub⟩

theorem Wk.refl_of {st : St} (nt : ∀ i x, lk st.t i = some x → x.nmIn (· < st.n)) (ne : ∀ m x, lk st.e m = some x → m < st.n ∧ x.nmIn (· < st.n)) (nh : ∀ m, Nm h m → m < st.n) : Wk h st st :=
  ⟨fun _ _ h => h, fun _ _ h => h, nt, ne, nh, rfl⟩

/-- A loop: a family of states, and a measure that goes down. -/
theorem W.loop {ι : Type} {c : Code} {st : St} {Q : Exit → St → Prop} (I : ι → St) (μ : ι → Nat) (i0 : ι) (h0 : Wk h st (I i0))
    (round : ∀ i, W P G h c (I i) (fun z s => match z with | .normal => ∃ j, Wk h s (I j) ∧ μ j < μ i | z => Q z s)) : W P G h (.loop c) st Q := by
  intro C a w ha
  refine wp_loop_ghost (fun n a w => ∃ i, μ i = n ∧ At G h C (I i) a w) (μ i0) ⟨i0, rfl, ha.weaken h0⟩ ?_
  rintro n a' w' ⟨i, rfl, hi⟩
  refine wp_mono (round i C a' w' hi) ?_
  rintro z a2 w2 ⟨s, h1, h2⟩
  cases z with
  | normal => obtain ⟨j, hj, hlt⟩ := h1; exact ⟨μ j, hlt, j, rfl, h2.weaken hj⟩
  | _ => exact ⟨s, h1, h2⟩
theorem W.weaken {c : Code} {st st' : St} {Q : Exit → St → Prop} (hk : Wk h st st') (hw : W P G h c st' Q) : W P G h c st Q := fun C a w ha => hw C a w (ha.weaken hk)
end

/-! ### Operations -/

def erA (t : Tms) (n : Nat) : Tms :=
  match t with
  | [] => []
  | (k, x) :: l => if k = n then erA l n else (k, x) :: erA l n
def putT (t : Tms) (d : Option Tmp) (v : AV) : Tms :=
  match d with
  | some d => (d, v) :: erA t d
  | none => t
theorem lk_erA (e : Tms) (n m : Nat) : lk (erA e n) m = if n = m then none else lk e m := by
  induction e with
  | nil => simp [erA, lk]
  | cons p e ih =>
    obtain ⟨k, x⟩ := p
    simp only [erA]
    split
    · next h => subst h; rw [ih]; simp only [lk]; split <;> simp_all
    · next h =>
      simp only [lk]
      split
      · next h2 => subst h2; rw [if_neg (fun q => h q.symm)]
      · next h2 => rw [ih]
theorem lk_putT (t : Tms) (d : Nat) (v : AV) (i : Nat) : lk (putT t (some d) v) i = if d = i then some v else lk t i := by
  simp only [putT, lk]; split <;> simp_all [lk_erA]

def inB (d : Option Tmp) (m : Nat) : Prop :=
  match d with
  | some d => d < m
  | none => True

theorem At.step {G : Nat → Option AV} {h : Ents} {C : Ctx} {st : St} {a : Act} {w w' : World} {ρ : Nat → Nat} {D : Nat → Prop} {d : Del} {v : AV} {x : Value} {dst : Option Tmp}
    (hg : Good C.B G ρ D st.t st.e a w) (hd : a.defers = [] ∧ a.tmps.size = st.m) (hD : ∀ n, D n → n < st.n) (hev : Evol C.B C.ρ (Nm h) h C.w ρ D st.e w) (hm : inB dst st.m)
    (hp : Post C.B ρ D st.e w st.n v d x w') : At G h C ⟨putT st.t dst v, ap d st.e, st.n + 16, st.m⟩ (a.put dst x) w' := by
  obtain ⟨ρ', D', h1, h2, h3, h4⟩ := hp
  refine ⟨ρ', D', ⟨h3, fun i y hi => ?_, fun b hb => hg.big b (Nat.le_trans h4.size hb), fun g y hy => (hg.gl g y hy).mono h4.evo NoNm (fun _ h => h.elim)⟩, ?_, fun n hn => ?_, hev.trans h4⟩
  · cases dst with
    | none =>
      obtain ⟨u, k1, k2⟩ := hg.tm i y hi
      exact ⟨u, k1, k2.mono h4.evo h4.agree⟩
    | some dd =>
      rw [lk_putT] at hi
      have hlt : dd < a.tmps.size := by rw [hd.2]; exact hm
      split at hi
      · next hq => subst hq; cases hi; exact ⟨x, by simp [Act.put, hlt], h2⟩
      · next hq =>
        obtain ⟨u, k1, k2⟩ := hg.tm i y hi
        exact ⟨u, by simp only [Act.put]; rw [Array.getElem?_setIfInBounds_ne hq]; exact k1, k2.mono h4.evo h4.agree⟩
  · cases dst <;> exact ⟨hd.1, by simpa [Act.put] using hd.2⟩
  · rcases h1 n hn with h | h
    · have := hD n h; show n < st.n + 16; omega
    · exact h.2

end Sx
