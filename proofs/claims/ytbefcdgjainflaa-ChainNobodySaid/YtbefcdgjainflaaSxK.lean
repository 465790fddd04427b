/- Code, symbolically: regions in the order of the text, control, functions. -/
import Derived.Test.YtbefcdgjainflaaSxA
import Derived.Sort.LoopGhostIn
import Derived.RangeFuncRecord
import Derived.Below
import Derived.Test.YtbefcdgjainflaaSxR
import Derived.LoopNIn
import Derived.RegionTactic
import Derived.OrdersIn
set_option linter.unusedVariables false
set_option linter.unusedSimpArgs false
namespace Sx
open Go

structure St where
  t : Tms
  e : Ents
  n : Nat
  m : Nat

/-- What stays the same through a function's run. -/
structure Ctx where
  B : Nat → Prop
  ρ : Nat → Nat
  w : World
  big : ∀ b, w.heap.size ≤ b → B b
  /-- Blocks of the machine's own book-keeping. -/
  sp : Nat → Obj → Prop
  /-- The deferred calls of functions. -/
  tail : List Deferred

def mks (dl : List Nat) : List Deferred := dl.map (fun b => { target := .collected b, args := #[] })
theorem mks_inj : ∀ {l l' : List Nat}, mks l = mks l' → l = l'
  | [], [], _ => rfl
  | [], _ :: _, h => by cases h
  | _ :: _, [], h => by cases h
  | a :: l, b :: l', h => by
    simp only [mks, List.map_cons, List.cons.injEq, Deferred.mk.injEq, Target.collected.injEq, and_true] at h
    rw [h.1, mks_inj (l := l) (l' := l') h.2]
/-- What is kept for loops over functions: the blocks of book-keeping; the marks among the deferred calls. -/
def Mk (C : Ctx) (ρ : Nat → Nat) (e : Ents) (w : World) (ds : List Deferred) : Prop :=
  (∀ b o, C.sp b o → Stab C.B ρ e w b ∧ w.heap[b]? = some o) ∧
    ∃ dl : List Nat, ds = mks dl ++ C.tail ∧ dl.Nodup ∧ ∀ b ∈ dl, C.w.heap.size ≤ b ∧ Stab C.B ρ e w b ∧ w.heap[b]? = some (.deferred (some []))
theorem Mk.mono {C : Ctx} {ρ ρ' : Nat → Nat} {e e' : Ents} {w w' : World} {ds : List Deferred} (h : Mk C ρ e w ds) (he : Evo (Stab C.B ρ e w) (Stab C.B ρ' e' w') w w') : Mk C ρ' e' w' ds := by
  obtain ⟨h1, dl, h2, h3, h4⟩ := h
  refine ⟨fun b o hb => ?_, dl, h2, h3, fun b hb => ?_⟩
  · obtain ⟨k1, k2⟩ := h1 b o hb
    exact ⟨(he.stable b k1).1, (he.stable b k1).2.trans k2⟩
  · obtain ⟨k0, k1, k2⟩ := h4 b hb
    exact ⟨k0, (he.stable b k1).1, (he.stable b k1).2.trans k2⟩
theorem Mk.stab {C : Ctx} {ρ ρ' : Nat → Nat} {e e' : Ents} {w : World} {ds : List Deferred} (h : Mk C ρ e w ds) (he : ∀ b, Stab C.B ρ e w b → Stab C.B ρ' e' w b) : Mk C ρ' e' w ds :=
  h.mono ⟨fun b hb => ⟨he b hb, rfl⟩, fun b n hb => hb⟩
theorem Mk.nil {C : Ctx} {ρ : Nat → Nat} {e : Ents} {w : World} (h : C.sp = fun _ _ => False) : Mk C ρ e w C.tail := ⟨fun b o hb => (by rw [h] at hb; exact hb.elim), [], rfl, .nil, fun b hb => (by cases hb)⟩

/-- An object of the machine's own book-keeping. -/
def bk : Obj → Bool
  | .loop _ => true
  | .deferred _ => true
  | _ => false
theorem bk_cell {w : World} {l : Nat} {o : Obj} (h : w.heap[l]? = some o) (ho : bk o = true) (i : Nat) : w.cell? ⟨l, i, none⟩ = none := by
  cases o <;> first | (simp [bk] at ho; done) | simp [World.cell?, h]
theorem bk_rw {w : World} {l n : Nat} {o : Obj} (h : w.heap[l]? = some o) (ho : bk o = true) : ¬ Rw w l n := by
  rintro ⟨c, T, fr, h2, _⟩
  rw [h] at h2; cases h2; cases ho
/-- Cells are kept, and so are stable blocks. -/
structure Kc (S S' : Nat → Prop) (w w' : World) : Prop where
  stab : ∀ b, S b → S' b
  cell : ∀ b o u, w.cell? ⟨b, o, none⟩ = some u → w'.cell? ⟨b, o, none⟩ = some u
  rw : ∀ b n, Rw w b n → Rw w' b n
theorem RC.kc {ρ : Nat → Nat} {S S' : Nat → Prop} {w w' : World} {N : Nat → Prop} {a : AV} {cs : List Value} (h : RC ρ S w N a cs) (k : Kc S S' w w') : RC ρ S' w' N a cs := by
  induction h with
  | int => exact .int
  | bool => exact .bool
  | str => exact .str
  | ints h => exact .ints h
  | nil => exact .nil
  | cons _ _ ih1 ih2 => exact .cons ih1 ih2
  | ptr h => exact .ptr h
  | pel _ hs hc ih => exact .pel ih (k.stab _ hs) (fun j u hj => k.cell _ _ _ (hc j u hj))
  | sl h ha hl hm hb hc => exact .sl h ha hl hm (k.rw _ _ hb) hc
  | nils => exact .nils
  | nilp => exact .nilp
  | nilf => exact .nilf
  | nili => exact .nili
  | nilm => exact .nilm
  | lstI hl hm hc => exact .lstI hl hm (fun i x hi => let ⟨b, o, h1, h2, h3⟩ := hc i x hi; ⟨b, o, h1, k.stab b h2, k.cell _ _ _ h3⟩)
  | lstS hl hm hc => exact .lstS hl hm (fun i x hi => let ⟨b, o, h1, h2, h3⟩ := hc i x hi; ⟨b, o, h1, k.stab b h2, k.cell _ _ _ h3⟩)
  | lst vs hl hm _ hc ih => exact .lst vs hl hm ih (fun i x hi => let ⟨h0, b, o, h1, h2, h3⟩ := hc i x hi; ⟨h0, b, o, h1, k.stab b h2, fun j u hj => k.cell _ _ _ (h3 j u hj)⟩)
  | fn vs _ hne ih => exact .fn vs ih hne
  | fnb vs _ ih => exact .fnb vs ih
  | ifc _ ih => exact .ifc ih
  | mp h => exact .mp h
  | unk h h2 => exact .unk h h2
theorem RowC.kc {ρ : Nat → Nat} {S S' : Nat → Prop} {w w' : World} {N : Nat → Prop} {r : Row} {cs : List Value} (h : RowC ρ S w N r cs) (k : Kc S S' w w') : RowC ρ S' w' N r cs := by
  induction h with
  | ints => exact .ints
  | strs => exact .strs
  | nil => exact .nil
  | cons h1 hz _ ih => exact .cons (h1.kc k) hz ih
theorem EntR.kc {ρ : Nat → Nat} {S S' : Nat → Prop} {w w' : World} {N : Nat → Prop} {b : Nat} {x : Ent} (h : EntR ρ S w N b x) (k : Kc S S' w w') (hb : w'.heap[b]? = w.heap[b]?) : EntR ρ S' w' N b x := by
  cases h with
  | obj h h1 => exact .obj (h.kc k) (h1.congr hb)
  | vec h h1 h2 => exact .vec (h.kc k) (h1.congr hb) h2
  | mset hs h1 => exact .mset hs (hb.trans h1)
theorem EntR.nbk {ρ : Nat → Nat} {S : Nat → Prop} {w : World} {N : Nat → Prop} {b : Nat} {x : Ent} (h : EntR ρ S w N b x) {o : Obj} (ho : w.heap[b]? = some o) : bk o = false := by
  cases h with
  | obj _ h1 => obtain ⟨_, h1, _⟩ := h1; rw [ho] at h1; cases h1; rfl
  | vec _ h1 _ => obtain ⟨_, h1, _⟩ := h1; rw [ho] at h1; cases h1; rfl
  | mset _ h1 => rw [ho] at h1; cases h1; rfl
theorem RV.kc {ρ : Nat → Nat} {S S' : Nat → Prop} {w w' : World} {N : Nat → Prop} {a : AV} {v : Value} (h : RV ρ S w N a v) (k : Kc S S' w w') : RV ρ S' w' N a v := by
  cases h with
  | one h => exact .one (h.kc k)
  | tup hl h => exact .tup hl (fun i x hi => let ⟨cs, h1, h2⟩ := h i x hi; ⟨cs, h1.kc k, h2⟩)

/-- The state holds. -/
def At (G : Nat → Option AV) (h : Ents) (C : Ctx) (st : St) (a : Act) (w : World) : Prop :=
  ∃ ρ D, Good C.B G ρ D st.t st.e a w ∧ (Mk C ρ st.e w a.defers ∧ a.tmps.size = st.m) ∧ (∀ n, D n → n < st.n) ∧ Evol C.B C.ρ (Nm h) h C.w ρ D st.e w

/-- A turn of the book-keeping leaves the state. -/
theorem At.turn {G : Nat → Option AV} {h : Ents} {C : Ctx} {st : St} {a a' : Act} {w : World} {l : Nat} {o o' : Obj} {sp' : Nat → Obj → Prop} (ha : At G h C st a w) (hl : C.w.heap.size ≤ l) (ho : w.heap[l]? = some o) (hb : bk o = true) (hb' : bk o' = true)
    (ht : a'.tmps = a.tmps)
    (hmk : ∀ ρ, Stab C.B ρ st.e w l → (∀ b, Stab C.B ρ st.e w b → Stab C.B ρ st.e (w.putObj l o') b) → Mk C ρ st.e w a.defers → Mk ⟨C.B, C.ρ, C.w, C.big, sp', C.tail⟩ ρ st.e (w.putObj l o') a'.defers) : At G h ⟨C.B, C.ρ, C.w, C.big, sp', C.tail⟩ st a' (w.putObj l o') := by
  obtain ⟨ρ, D, hg, hd, hD, hev⟩ := ha
  have hsz : (w.putObj l o').heap.size = w.heap.size := World.putObj_size
  have hlt : l < w.heap.size := (Array.getElem?_eq_some_iff.1 ho).1
  have hoth : ∀ b : Nat, b ≠ l → (w.putObj l o').heap[b]? = w.heap[b]? := fun b hb => World.putObj_heap_other hb
  have hS : ∀ b, Stab C.B ρ st.e w b → Stab C.B ρ st.e (w.putObj l o') b := fun b hb => ⟨hb.1, by rw [hsz]; exact hb.2.1, hb.2.2⟩
  have k : Kc (Stab C.B ρ st.e w) (Stab C.B ρ st.e (w.putObj l o')) w (w.putObj l o') := ⟨hS, fun b i u hu => by
    by_cases hq : b = l
    · subst hq; rw [bk_cell ho hb] at hu; cases hu
    · simp only [World.cell?, hoth b hq] at hu ⊢; exact hu, fun b n hn => by
    by_cases hq : b = l
    · subst hq; exact absurd hn (bk_rw ho hb)
    · exact hn.congr (hoth b hq)⟩
  have hne : ∀ m x, lk st.e m = some x → ρ m ≠ l := fun m x hm hq => by
    have := (hg.mem.en m x hm).2.nbk (o := o) (by rw [hq]; exact ho)
    rw [hb] at this; cases this
  refine ⟨ρ, D, ⟨⟨fun m x hm => ⟨(hg.mem.en m x hm).1, (hg.mem.en m x hm).2.kc k (hoth _ (hne m x hm))⟩, hg.mem.inj⟩, fun i x hi => ?_, fun b hb => hg.big b (by rw [hsz] at hb; exact hb), fun g x hx => (hg.gl g x hx).kc k⟩,
    ⟨hmk ρ ⟨C.big l hl, hlt, hne⟩ hS hd.1, by rw [ht]; exact hd.2⟩, hD,
    ⟨⟨fun b hb => ⟨hS b (hev.evo.stable b hb).1, ?_⟩, fun b n hn => k.rw b n (hev.evo.sized b n hn)⟩, hev.agree, hev.fresh, by rw [hsz]; exact hev.size, hev.os, hev.out, hev.tape, fun b hb hn => ?_⟩⟩
  · obtain ⟨v, h1, h2⟩ := hg.tm i x hi
    exact ⟨v, by rw [ht]; exact h1, h2.kc k⟩
  · have : b < C.w.heap.size := hb.2.1
    exact (hoth b (by omega)).trans (hev.evo.stable b hb).2
  · have hb : b < C.w.heap.size := hb
    exact (hoth b (by omega)).trans (hev.others b hb hn)
/-- The marks are come to: none of them hands over a call. -/
theorem At.leave {G : Nat → Option AV} {h : Ents} {C : Ctx} {st : St} {P : Program} {fn : Func} {R : Ending → World → Prop} {u : FrameMode} {tmps : Array Value} (hu : u ≠ .run) (hsp : ∀ b o, ¬ C.sp b o) :
    ∀ (dl : List Nat) (w : World), At G h C st { tmps, defers := mks dl ++ C.tail } w →
    ∃ w', At G h C st { tmps, defers := C.tail } w' ∧ (LeavesInM (fr none) 0 P fn tmps R C.tail u w' → LeavesInM (fr none) 0 P fn tmps R (mks dl ++ C.tail) u w)
  | [], w, ha => ⟨w, ha, fun h => h⟩
  | b :: dl, w, ha => by
    obtain ⟨ρ, D, hg, hd, hD, hev⟩ := id ha
    obtain ⟨_, dl', h2, h3, h4⟩ := hd.1
    obtain rfl := mks_inj (List.append_cancel_right h2)
    obtain ⟨k1, k2, k3⟩ := h4 b (by simp)
    have hat : At G h C st { tmps, defers := mks dl ++ C.tail } (w.putObj b (.deferred none)) := by
      refine At.turn (a := { tmps, defers := mks (b :: dl) ++ C.tail }) (o := .deferred (some [])) (sp' := C.sp) ha k1 k3 rfl rfl rfl (fun ρ' hl hS hmk => ?_)
      obtain ⟨_, dl', g2, g3, g4⟩ := hmk
      obtain rfl := mks_inj (List.append_cancel_right g2)
      rw [List.nodup_cons] at g3
      refine ⟨fun b o hb => (hsp b o hb).elim, dl, rfl, g3.2, fun c hc => ?_⟩
      obtain ⟨q1, q2, q3⟩ := g4 c (List.mem_cons_of_mem _ hc)
      exact ⟨q1, hS c q2, (World.putObj_heap_other (fun q => g3.1 (by rw [← q]; exact hc))).trans q3⟩
    obtain ⟨w', h5, h6⟩ := At.leave hu hsp dl _ hat
    exact ⟨w', h5, fun hq => ⟨hu, .inl ⟨b, _, rfl, run_takeDeferred k3, h6 hq⟩⟩⟩

/-- The heap may grow. -/
theorem At.ext {G : Nat → Option AV} {h : Ents} {C : Ctx} {st : St} {a : Act} {w w' : World} (ha : At G h C st a w) (hb : Go.RowKit.Below w.heap.size w w') : At G h C st a w' := by
  obtain ⟨ρ, D, hg, hd, hD, hev⟩ := ha
  have hS : ∀ b, Stab C.B ρ st.e w b → Stab C.B ρ st.e w' b := fun b h => ⟨h.1, Nat.lt_of_lt_of_le h.2.1 hb.size, h.2.2⟩
  have hevo : Evo (Stab C.B ρ st.e w) (Stab C.B ρ st.e w') w w' := ⟨fun b h => ⟨hS b h, hb.block b h.2.1⟩, fun b n h => h.congr (hb.block b h.lt)⟩
  refine ⟨ρ, D, ⟨⟨fun m x hm => ⟨(hg.mem.en m x hm).1, (hg.mem.en m x hm).2.mono hevo (fun n hn => ⟨hn, rfl⟩) (hb.block _ (hg.mem.block_lt hm))⟩, hg.mem.inj⟩, fun i x hi => ?_, fun b h => hg.big b (Nat.le_trans hb.size h), fun g y hy => (hg.gl g y hy).mono hevo NoNm (fun _ h => h.elim)⟩,
    ⟨hd.1.mono hevo, hd.2⟩, hD, ⟨hev.evo.trans hevo, hev.agree, hev.fresh, Nat.le_trans hev.size hb.size, hb.os.trans hev.os, hb.output.trans hev.out, hb.tape.trans hev.tape, fun b h1 h2 => (hb.block b (Nat.lt_of_lt_of_le h1 hev.size)).trans (hev.others b h1 h2)⟩⟩
  obtain ⟨v, h1, h2⟩ := hg.tm i x hi
  exact ⟨v, h1, h2.mono hevo (fun n hn => ⟨hn, rfl⟩)⟩
/-- From this state the code comes to one of those. -/
def W (ro : Option Nat) (P : Program) (G : Nat → Option AV) (h : Ents) (c : Code) (st : St) (Q : Exit → St → Prop) : Prop :=
  ∀ C a w, At G h C st a w → c.wpIn (fr ro) 0 P (fun x a' w' => ∃ st', Q x st' ∧ At G h C st' a' w') a w

section
variable {ro : Option Nat} {P : Program} {G : Nat → Option AV} {h : Ents}

theorem W.mono {c : Code} {st : St} {Q Q' : Exit → St → Prop} (hw : W ro P G h c st Q) (hq : ∀ x s, Q x s → Q' x s) : W ro P G h c st Q' :=
  fun C a w ha => wpIn_mono (hw C a w ha) (fun x a' w' ⟨s, h1, h2⟩ => ⟨s, hq x s h1, h2⟩)

theorem W.seq {x y : Code} {st : St} {Q : Exit → St → Prop} (hx : W ro P G h x st (fun z s => match z with | .normal => W ro P G h y s Q | z => Q z s)) : W ro P G h (.seq x y) st Q := by
  intro C a w ha
  refine wpIn_seq (wpIn_mono (hx C a w ha) ?_)
  rintro z a' w' ⟨s, h1, h2⟩
  cases z with
  | normal => exact h1 C a' w' h2
  | _ => exact ⟨s, h1, h2⟩
theorem W.skip {st : St} {Q : Exit → St → Prop} (hq : Q .normal st) : W ro P G h .skip st Q := fun C a w ha => wpIn_skip ⟨st, hq, ha⟩
theorem W.ret {st : St} {Q : Exit → St → Prop} (hq : Q .ret st) : W ro P G h .ret st Q := fun C a w ha => wpIn_ret ⟨st, hq, ha⟩
theorem W.exit {id : Nat} {st : St} {Q : Exit → St → Prop} (hq : Q (.exit id) st) : W ro P G h (.exit id) st Q := fun C a w ha => wpIn_exit ⟨st, hq, ha⟩
theorem W.block {id : Nat} {c : Code} {st : St} {Q : Exit → St → Prop} (hc : W ro P G h c st (fun z s => match z with | .exit id' => if id' = id then Q .normal s else Q (.exit id') s | z => Q z s)) : W ro P G h (.block id c) st Q := by
  intro C a w ha
  refine wpIn_block (wpIn_mono (hc C a w ha) ?_)
  rintro z a' w' ⟨s, h1, h2⟩
  cases z with
  | exit id' =>
    simp only [Exit.inBlock]
    split
    · next hq => subst hq; simp only [if_true] at h1; exact ⟨s, h1, h2⟩
    · next hq => simp only [if_neg hq] at h1; exact ⟨s, h1, h2⟩
  | _ => exact ⟨s, h1, h2⟩
theorem W.cond {c : Operand} {x y : Code} {st : St} {b : Bool} {Q : Exit → St → Prop} (hc : ev G st.t c = some (.bool b)) (hx : b = true → W ro P G h x st Q) (hy : b = false → W ro P G h y st Q) : W ro P G h (.cond c x y) st Q := by
  intro C a w ha
  obtain ⟨ρ, D, hg, _⟩ := id ha
  exact wpIn_cond_split (ev_sound hg (fun _ _ h => h) hc).bool_inv (fun hb => hx hb C a w ha) (fun hb => hy hb C a w ha)

/-- Fewer facts, and names that are free again. -/
structure Wk (h : Ents) (st st' : St) : Prop where
  t : Le st'.t st.t
  e : Le st'.e st.e
  nt : ∀ i x, lk st'.t i = some x → x.nmIn (· < st'.n)
  ne : ∀ m x, lk st'.e m = some x → m < st'.n ∧ x.nmIn (· < st'.n)
  nh : ∀ m, Nm h m → m < st'.n
  m : st'.m = st.m

theorem At.weaken {st st' : St} (hk : Wk h st st') {C : Ctx} {a : Act} {w : World} (ha : At G h C st a w) : At G h C st' a w := by
  obtain ⟨ρ, D, hg, hd, hD, hev⟩ := ha
  have hS : ∀ b, Stab C.B ρ st.e w b → Stab C.B ρ st'.e w b := fun b hb => ⟨hb.1, hb.2.1, fun m x hm => hb.2.2 m x (hk.e _ _ hm)⟩
  have hself : Evo (Stab C.B ρ st.e w) (Stab C.B ρ st'.e w) w w := ⟨fun b hb => ⟨hS b hb, rfl⟩, fun b n hb => hb⟩
  -- the names that are still spoken of
  let D' : Nat → Prop := fun n => n < st'.n ∧ D n
  have sub : ∀ n, D' n → D' n ∧ ρ n = ρ n := fun n hn => ⟨hn, rfl⟩
  have both : ∀ {x : AV} {v : Value} {S : Nat → Prop}, RV ρ S w D x v → x.nmIn (· < st'.n) → RV ρ S w D' x v := by
    intro x v S h1 h2
    exact RV.restrict2 h1 h2
  refine ⟨ρ, D', ⟨⟨fun m x hm => ?_, fun m m' x x' hm hm' hq => hg.mem.inj m m' x x' (hk.e _ _ hm) (hk.e _ _ hm') hq⟩, fun i x hi => ?_, hg.big, fun g x hx => (hg.gl g x hx).mono hself NoNm (fun _ h => h.elim)⟩, ⟨hd.1.stab hS, hd.2.trans hk.m.symm⟩, fun n hn => hn.1,
    ⟨fun b hb => ⟨hS b (hev.evo.stable b hb).1, (hev.evo.stable b hb).2⟩, hev.evo.sized⟩, fun n hn => ⟨⟨hk.nh n hn, (hev.agree n hn).1⟩, (hev.agree n hn).2⟩, fun m x hm => hev.fresh m x (hk.e _ _ hm), hev.size, hev.os, hev.out, hev.tape, hev.others⟩
  · have h1 := hg.mem.en m x (hk.e _ _ hm)
    exact ⟨⟨(hk.ne m x hm).1, h1.1⟩, (EntR.restrict2 h1.2 (hk.ne m x hm).2).mono hself sub rfl⟩
  · obtain ⟨v, h1, h2⟩ := hg.tm i x (hk.t _ _ hi)
    exact ⟨v, h1, (both h2 (hk.nt i x hi)).mono hself sub⟩

theorem Wk.refl_of {st : St} (nt : ∀ i x, lk st.t i = some x → x.nmIn (· < st.n)) (ne : ∀ m x, lk st.e m = some x → m < st.n ∧ x.nmIn (· < st.n)) (nh : ∀ m, Nm h m → m < st.n) : Wk h st st :=
  ⟨fun _ _ h => h, fun _ _ h => h, nt, ne, nh, rfl⟩

/-- A loop: a family of states, and a measure that goes down. -/
theorem W.loop {ι : Type} {c : Code} {st : St} {Q : Exit → St → Prop} (I : ι → St) (μ : ι → Nat) (i0 : ι) (h0 : Wk h st (I i0))
    (round : ∀ i, W ro P G h c (I i) (fun z s => match z with | .normal => ∃ j, Wk h s (I j) ∧ μ j < μ i | z => Q z s)) : W ro P G h (.loop c) st Q := by
  intro C a w ha
  refine wpIn_loop_ghost (fun n a w => ∃ i, μ i = n ∧ At G h C (I i) a w) (μ i0) ⟨i0, rfl, ha.weaken h0⟩ ?_
  rintro n a' w' ⟨i, rfl, hi⟩
  refine wpIn_mono (round i C a' w' hi) ?_
  rintro z a2 w2 ⟨s, h1, h2⟩
  cases z with
  | normal => obtain ⟨j, hj, hlt⟩ := h1; exact ⟨μ j, hlt, j, rfl, h2.weaken hj⟩
  | _ => exact ⟨s, h1, h2⟩
theorem W.weaken {c : Code} {st st' : St} {Q : Exit → St → Prop} (hk : Wk h st st') (hw : W ro P G h c st' Q) : W ro P G h c st Q := fun C a w ha => hw C a w (ha.weaken hk)
end

/-! ### Operations -/

def erA (t : Tms) (n : Nat) : Tms :=
  match t with
  | [] => []
  | (k, x) :: l => if k = n then erA l n else (k, x) :: erA l n
def putT (t : Tms) (d : Option Tmp) (v : AV) : Tms :=
  match d with
  | some d => (d, v) :: erA t d
  | none => t
theorem lk_erA (e : Tms) (n m : Nat) : lk (erA e n) m = if n = m then none else lk e m := by
  induction e with
  | nil => simp [erA, lk]
  | cons p e ih =>
    obtain ⟨k, x⟩ := p
    simp only [erA]
    split
    · next h => subst h; rw [ih]; simp only [lk]; split <;> simp_all
    · next h =>
      simp only [lk]
      split
      · next h2 => subst h2; rw [if_neg (fun q => h q.symm)]
      · next h2 => rw [ih]
theorem lk_putT (t : Tms) (d : Nat) (v : AV) (i : Nat) : lk (putT t (some d) v) i = if d = i then some v else lk t i := by
  simp only [putT, lk]; split <;> simp_all [lk_erA]

def inB (d : Option Tmp) (m : Nat) : Prop :=
  match d with
  | some d => d < m
  | none => True

theorem At.step {G : Nat → Option AV} {h : Ents} {C : Ctx} {st : St} {a : Act} {w w' : World} {ρ : Nat → Nat} {D : Nat → Prop} {d : Del} {v : AV} {x : Value} {dst : Option Tmp}
    (hg : Good C.B G ρ D st.t st.e a w) (hd : Mk C ρ st.e w a.defers ∧ a.tmps.size = st.m) (hD : ∀ n, D n → n < st.n) (hev : Evol C.B C.ρ (Nm h) h C.w ρ D st.e w) (hm : inB dst st.m)
    (hp : Post C.B ρ D st.e w st.n v d x w') : At G h C ⟨putT st.t dst v, ap d st.e, st.n + 16, st.m⟩ (a.put dst x) w' := by
  obtain ⟨ρ', D', h1, h2, h3, h4⟩ := hp
  refine ⟨ρ', D', ⟨h3, fun i y hi => ?_, fun b hb => hg.big b (Nat.le_trans h4.size hb), fun g y hy => (hg.gl g y hy).mono h4.evo NoNm (fun _ h => h.elim)⟩, ?_, fun n hn => ?_, hev.trans h4⟩
  · cases dst with
    | none =>
      obtain ⟨u, k1, k2⟩ := hg.tm i y hi
      exact ⟨u, k1, k2.mono h4.evo h4.agree⟩
    | some dd =>
      rw [lk_putT] at hi
      have hlt : dd < a.tmps.size := by rw [hd.2]; exact hm
      split at hi
      · next hq => subst hq; cases hi; exact ⟨x, by simp [Act.put, hlt], h2⟩
      · next hq =>
        obtain ⟨u, k1, k2⟩ := hg.tm i y hi
        exact ⟨u, by simp only [Act.put]; rw [Array.getElem?_setIfInBounds_ne hq]; exact k1, k2.mono h4.evo h4.agree⟩
  · cases dst <;> exact ⟨hd.1.mono h4.evo, by simpa [Act.put] using hd.2⟩
  · rcases h1 n hn with h | h
    · have := hD n h; show n < st.n + 16; omega
    · exact h.2

end Sx

/- The interpreter: operations, regions, functions. -/
set_option linter.unusedVariables false
set_option linter.unusedSimpArgs false
namespace Sx
open Go

/-- An integer operand. -/
def asI : AV → Option Int
  | .int _ j => some j
  | _ => none

/-- A slice as a pointer to its array. -/
def stapQ (ti : TI) (p : AV) : Q AV :=
  match ti.kd, p with
  | .arr n _, .sl nm sz off len => req (0 < n ∧ n ≤ len) (ret (.ptr nm 0 off sz))
  | .arr n _, .lstI k xs => req (0 < n ∧ n ≤ xs.length) (ret (.pel (.agg [.ints k n (xs.take n)])))
  | _, _ => none

theorem sound_stap {P : Program} {G : Nat → Option AV} {t : Tms} {e : Ents} {nb : Nat} {dst : Option Tmp} {ty : TypeId} {pos : String} {after : Array Edge} {gd : Option (Nat × Bool)} {T : Nat} {ti : TI} {x : Operand} {p v : AV}
    (hT : TyOK P T ti) (hx : ev G t x = some p) (h : Ok (stapQ ti p) v) : OpSound P G t e nb ⟨dst, .sliceToArrayPointer T x, ty, pos, after, gd⟩ v [] := by
  intro B ρ D t' e' c w ht hle hg _
  have hx := ev_sound hg ht hx
  unfold stapQ at h
  split at h
  · next n el nm sz off len hk _ =>
    obtain ⟨⟨h0, h1⟩, h2⟩ := h.req
    have := h2.ret; subst this
    obtain ⟨cs, hv, hr⟩ := hx.inv (by simp)
    cases hr with
    | sl hn ha hl hm hb0 hc =>
      rename_i cap a c0
      refine .value (x := .pointer (some a)) (w' := w) ?_ (Post.pure hg.mem ?_)
      · have hv' : c.eval x = .slice (some a) len cap := hv
        simp only [execOp, hv', Instr.arrayAt, Sem.run_bind, run_underlying (hT.uarr hk), Result.andThen_ok, Sem.run_pure]
        rw [if_neg (by omega)]; rfl
      · rcases ha with rfl | ⟨h3, _⟩
        · have := RV.one (RC.ptr (ρ := ρ) (S := Stab B ρ e' w) (w := w) (N := D) (nm := nm) (o := 0) (i := off) (sz := sz) hn)
          simpa [shape, AV.isAgg] using this
        · omega
  · next n el k xs hk _ =>
    obtain ⟨⟨h0, h1⟩, h2⟩ := h.req
    have := h2.ret; subst this
    obtain ⟨cs, hv, hr⟩ := hx.inv (by simp)
    cases hr with
    | lstI hl hm hc =>
      rename_i a cap
      obtain ⟨b, o, rfl, hS, _⟩ := hc 0 (xs[0]'(by omega)) (by simp)
      refine .value (x := .pointer (some ⟨b, o, none⟩)) (w' := w) ?_ (Post.pure hg.mem ?_)
      · have hv' : c.eval x = .slice (some ⟨b, o, none⟩) xs.length cap := hv
        simp only [execOp, hv', Instr.arrayAt, Sem.run_bind, run_underlying (hT.uarr hk), Result.andThen_ok, Sem.run_pure]
        rw [if_neg (by omega)]; rfl
      · refine .one (cs := [_]) (.pel (cs := ((xs.take n).map (Value.int k)) ++ []) (.cons (.ints (by simp; omega)) .nil) hS (fun j u hj => ?_))
        simp only [List.append_nil, List.getElem?_map, Option.map_eq_some_iff] at hj
        obtain ⟨y, hy, rfl⟩ := hj
        rw [List.getElem?_take] at hy
        split at hy
        · obtain ⟨b', o', hbo, _, hcell⟩ := hc j y hy
          cases hbo
          exact hcell
        · cases hy
  · exact h.none.elim

/-- No mark of first arguments. -/
def noNilf : List AV → Bool
  | .nilf :: _ => false
  | _ => true
/-- A function made in the body. -/
def mkfQ (f : Fn) (first captured : Option (List AV)) : Q AV :=
  match f, first, captured with
  | .func f, some [], some cs => req (isTupL cs = false ∧ noNilf cs = true) (ret (.fn (.func f) cs))
  | .func f, some (b :: bs), some [] => req (isTupL (b :: bs) = false) (ret (.fn (.func f) (.nilf :: b :: bs)))
  | _, _, _ => none
theorem sound_mkf {P : Program} {G : Nat → Option AV} {t : Tms} {e : Ents} {nb : Nat} {dst : Option Tmp} {ty : TypeId} {pos : String} {after : Array Edge} {gd : Option (Nat × Bool)} {f : Fn} {xs ys : Array Operand} {v : AV}
    (h : Ok (mkfQ f (evL G t xs.toList) (evL G t ys.toList)) v) : OpSound P G t e nb ⟨dst, .makeFunc f xs ys, ty, pos, after, gd⟩ v [] := by
  intro B ρ D t' e' a w ht hle hg _
  have hrun : (execOp a.eval ⟨dst, .makeFunc f xs ys, ty, pos, after, gd⟩).run P w = .ok (.value (.func f (xs.map a.eval) (ys.map a.eval))) w := by
    simp [execOp, Instr.makeFunc]
  refine .value hrun (Post.pure hg.mem ?_)
  have key : ∀ {zs : Array Operand} {as : List AV}, evL G t zs.toList = some as → isTupL as = false → ∃ us : Nat → List Value, zs.map a.eval = (as.zipIdx.map fun (x, i) => shape x (us i)).toArray ∧ ∀ (i : Nat) x, as[i]? = some x → RC ρ (Stab B ρ e' w) w D x (us i) := by
    intro zs as hz hs
    obtain ⟨cs, h1, h2, h3⟩ := evL_sound hg ht hz hs
    refine ⟨fun i => cs.getD i [], ?_, fun i x hi => ?_⟩
    · rw [zip_range as (fun i => cs.getD i [])]
      have e1 : (List.range as.length).map (fun i => cs.getD i []) = cs := by
        apply List.ext_getElem?
        intro i
        rw [List.getElem?_map]
        by_cases hi : i < cs.length
        · rw [List.getElem?_range (by omega)]
          simp [List.getD_eq_getElem?_getD, hi]
        · rw [List.getElem?_eq_none (by simp; omega), List.getElem?_eq_none (by omega)]; rfl
      rw [e1, ← h2, ← List.map_toArray, Array.toArray_toList]
    · obtain ⟨c, h4, h5⟩ := h3 i x hi
      simpa [List.getD_eq_getElem?_getD, h4] using h5
  unfold mkfQ at h
  split at h
  · next f' cs h1 h2 =>
    obtain ⟨⟨k1, k2⟩, h3⟩ := h.req
    have := h3.ret; subst this
    obtain ⟨us, g1, g2⟩ := key h2 k1
    have e1 : xs.map a.eval = #[] := by
      obtain ⟨us', g3, _⟩ := key h1 rfl
      rw [g3]; rfl
    rw [e1, g1]
    refine .one (cs := [_]) (.fn us g2 (fun l hl => ?_))
    subst hl; simp [noNilf] at k2
  · next f' b bs h1 h2 =>
    obtain ⟨k1, h3⟩ := h.req
    have := h3.ret; subst this
    obtain ⟨us, g1, g2⟩ := key h1 k1
    have e1 : ys.map a.eval = #[] := by
      obtain ⟨us', g3, _⟩ := key h2 rfl
      rw [g3]; rfl
    rw [e1, g1]
    exact .one (cs := [_]) (.fnb us g2)
  · exact h.none.elim


/-- A value of an interface's type. -/
def mkiF (kd : Kd) (T : Nat) (v : AV) : Q AV :=
  match kd with
  | .ifc => none
  | _ => req (v.isTup = false) (ret (.ifc T v))
/-- One operation that is no call. -/
def stepQ (tt : Nat → Option TI) (G : Nat → Option AV) (t : Tms) (e : Ents) (nb : Nat) : Op → Q (AV × Del)
  | .move x => opt (ev G t x) fun v => ret (v, [])
  | .assign x => opt (ev G t x) fun v => ret (v, [])
  | .extract x i => opt (ev G t x) fun v => match v with | .tup l => opt l[i]? fun u => ret (u, []) | _ => none
  | .alloc T => opt (tt T) fun ti => ret (.ptr nb 0 0 1, [(nb, some (.obj T ti.z))])
  | .box T x => opt (ev G t x) fun v => req (v.isTup = false) (ret (.ptr nb 0 0 1, [(nb, some (.obj T v))]))
  | .load T x => opt (tt T) fun ti => opt (ev G t x) fun p => bnd (ldP e ti p) fun v => ret (v, [])
  | .store T x y => opt (tt T) fun ti => opt (ev G t x) fun p => opt (ev G t y) fun v => bnd (stP e ti p v) fun d => ret (.tup [], d)
  | .binOp op T x y _ => opt (ev G t x) fun a => opt (ev G t y) fun b => bnd (binI tt T op y a b) fun v => ret (v, [])
  | .unOp op _ x => opt (ev G t x) fun a => bnd (unF op a) fun v => ret (v, [])
  | .convert T1 T2 x => opt (tt T1) fun t1 => opt (tt T2) fun t2 => opt (ev G t x) fun v => bnd (cvQ tt e T1 T2 t1 t2 v) fun u => ret (u, [])
  | .fieldAddr T x f => opt (tt T) fun ti => opt (ev G t x) fun p => bnd (fldF tt ti f p) fun v => ret (v, [])
  | .field T x f => opt (tt T) fun ti => opt (ev G t x) fun p =>
    match ti.kd, p with
    | .strct fs, .agg cs => opt fs[f]? fun q => opt (tt q.2) fun tf => bnd (ldC tf cs q.1 0) fun v => ret (v, [])
    | _, _ => none
  | .indexAddr T x y => opt (tt T) fun ti => opt (tt ti.kd.elem) fun tf => opt (ev G t x) fun p => opt (ev G t y) fun j => opt (asI j) fun j => bnd (ixA ti tf p j) fun v => ret (v, [])
  | .index T x y => opt (tt T) fun ti => opt (ev G t x) fun p => opt (ev G t y) fun j => opt (asI j) fun j =>
    match ti.kd with
    | .str => bnd (ixV ti default p j) fun v => ret (v, [])
    | .arr n el => opt (tt el) fun tf => bnd (ixV ti tf p j) fun v => ret (v, [])
    | _ => none
  | .slice T x lo hi none => opt (tt T) fun ti => opt (ev G t x) fun p => opt (bd G t lo) fun l => opt (bd G t hi) fun u => bnd (slF tt e ti p l u) fun v => ret (v, [])
  | .slice T x lo hi (some mx) => opt (tt T) fun ti => opt (ev G t x) fun p => opt (bd G t lo) fun l => opt (bd G t hi) fun u => opt (bd G t (some mx)) fun m => bnd (slM tt ti p l u m) fun v => ret (v, [])
  | .pick c x y => opt (ev G t c) fun b => bnd (pickF b (ev G t x) (ev G t y)) fun v => ret (v, [])
  | .nilCheck x => opt (ev G t x) fun v => req (notNil v = true) (ret (v, []))
  | .makeInterface T x => opt (tt T) fun ti => opt (ev G t x) fun v => bnd (mkiF ti.kd T v) fun u => ret (u, [])
  | .makeFunc f xs ys => bnd (mkfQ f (evL G t xs.toList) (evL G t ys.toList)) fun v => ret (v, [])
  | .build T ps => opt (tt T) fun ti => opt (evP G t ps.toList) fun vs => bnd (bldF tt ti vs) fun v => ret (v, [])
  | .buildSlice T n ps => opt (tt T) fun ti => opt (evP G t ps.toList) fun vs => bslQ tt nb ti n vs
  | .sliceToArrayPointer T x => opt (tt T) fun ti => opt (ev G t x) fun p => bnd (stapQ ti p) fun v => ret (v, [])
  | .makeSlice T x y => opt (tt T) fun ti => opt (ev G t x) fun a => opt (ev G t y) fun b => mkQ tt nb ti a b
  | .makeMap T none => opt (tt T) fun ti => bnd (mkmQ tt ti) fun m => ret (.mp nb, [(nb, some (.mset m))])
  | .lookup T x y true => opt (tt T) fun ti => opt (ev G t x) fun m => opt (ev G t y) fun k => bnd (lkoQ tt e ti m k) fun v => ret (v, [])
  | .lookup T x y false => opt (tt T) fun ti => opt (ev G t x) fun m => opt (ev G t y) fun k => bnd (lkpQ tt e ti m k) fun v => ret (v, [])
  | .mapEntry T x y => opt (tt T) fun ti => opt (ev G t x) fun m => opt (ev G t y) fun k => mpeQ tt e ti m k
  | .entryStore T x y u => opt (tt T) fun ti => opt (ev G t x) fun m => opt (ev G t y) fun k => opt (ev G t u) fun v => bnd (mesQ tt e ti m k v) fun d => ret (.tup [], d)
  | .mapUpdate T x y u => opt (tt T) fun ti => opt (ev G t x) fun m => opt (ev G t y) fun k => opt (ev G t u) fun v => bnd (mupQ tt e ti m k v) fun d => ret (.tup [], d)
  | _ => none

section
variable {P : Program} {tt : Nat → Option TI} {G : Nat → Option AV} {t : Tms} {e : Ents} {nb : Nat} {dst : Option Tmp} {ty : TypeId} {pos : String} {after : Array Edge} {gd : Option (Nat × Bool)}

theorem asI_spec {v : AV} {j : Int} (h : asI v = some j) : ∃ k, v = .int k j := by
  cases v <;> simp [asI] at h
  subst h; exact ⟨_, rfl⟩
theorem notTup {v : AV} (h : v.isTup = false) : ∀ l, v ≠ .tup l := by
  intro l hl; subst hl; cases h

theorem sound_mki {T : Nat} {ti : TI} {x : Operand} {a v : AV} (hT : TyOK P T ti) (hx : ev G t x = some a) (h : Ok (mkiF ti.kd T a) v) : OpSound P G t e nb ⟨dst, .makeInterface T x, ty, pos, after, gd⟩ v [] := by
  intro B ρ D t' e' c w ht _ hg _
  unfold mkiF at h
  split at h
  · exact h.none.elim
  · next hk =>
    obtain ⟨h1, h⟩ := h.req
    have h := h.ret
    subst h
    obtain ⟨cs, hcs, hr⟩ := (ev_sound hg ht hx).inv (notTup h1)
    obtain ⟨d, hd, h2⟩ := hT.under
    refine .value (x := .iface T (shape a cs)) (w' := w) ?_ (Post.pure hg.mem (.one (.ifc hr)))
    simp only [execOp, hcs, Instr.makeInterface, Sem.run_bind, run_underlying hd, Result.andThen_ok]
    cases d <;> first | (simp; done) | (exfalso; exact hk (by rw [← h2]; rfl))
theorem stepQ_sound (hTT : TT P tt) {op : Op} {v : AV} {d : Del} (h : Ok (stepQ tt G t e nb op) (v, d)) : OpSound P G t e nb ⟨dst, op, ty, pos, after, gd⟩ v d := by
  cases op <;> simp only [stepQ] at h <;> first | exact h.none.elim | skip
  case move => obtain ⟨v, h1, h⟩ := h.opt; cases h.ret; exact sound_move h1
  case assign => obtain ⟨v, h1, h⟩ := h.opt; cases h.ret; exact sound_assign h1
  case extract =>
    obtain ⟨v, h1, h⟩ := h.opt
    split at h
    · obtain ⟨u, h2, h⟩ := h.opt; cases h.ret; exact sound_extract h1 h2
    · exact h.none.elim
  case alloc => obtain ⟨ti, h1, h⟩ := h.opt; cases h.ret; exact sound_alloc (hTT _ _ h1)
  case box => obtain ⟨v, h1, h⟩ := h.opt; obtain ⟨h2, h⟩ := h.req; cases h.ret; exact sound_box h1 (notTup h2)
  case load => obtain ⟨ti, h1, h⟩ := h.opt; obtain ⟨p, h2, h⟩ := h.opt; obtain ⟨v, h3, h⟩ := h.bnd; cases h.ret; exact sound_load (hTT _ _ h1) h2 h3
  case store => obtain ⟨ti, h1, h⟩ := h.opt; obtain ⟨p, h2, h⟩ := h.opt; obtain ⟨v, h3, h⟩ := h.opt; obtain ⟨d, h4, h⟩ := h.bnd; cases h.ret; exact sound_store (hTT _ _ h1) h2 h3 h4
  case binOp => obtain ⟨a, h1, h⟩ := h.opt; obtain ⟨b, h2, h⟩ := h.opt; obtain ⟨v, h3, h⟩ := h.bnd; cases h.ret; exact sound_binG hTT h1 h2 h3
  case unOp => obtain ⟨a, h1, h⟩ := h.opt; obtain ⟨v, h3, h⟩ := h.bnd; cases h.ret; exact sound_un h1 h3
  case convert T1 T2 x =>
    obtain ⟨t1, h1, h⟩ := h.opt; obtain ⟨t2, h2, h⟩ := h.opt; obtain ⟨a, h3, h⟩ := h.opt; obtain ⟨v, h4, h⟩ := h.bnd; cases h.ret
    exact sound_cv hTT (hTT _ _ h1) (hTT _ _ h2) h3 h4
  case pick => obtain ⟨b, h1, h⟩ := h.opt; obtain ⟨v, h2, h⟩ := h.bnd; cases h.ret; exact sound_pick h1 h2
  case makeInterface => obtain ⟨ti, h1, h⟩ := h.opt; obtain ⟨v, h2, h⟩ := h.opt; obtain ⟨u, h3, h⟩ := h.bnd; cases h.ret; exact sound_mki (hTT _ _ h1) h2 h3
  case makeFunc => obtain ⟨v, h1, h⟩ := h.bnd; cases h.ret; exact sound_mkf h1
  case nilCheck => obtain ⟨b, h1, h⟩ := h.opt; obtain ⟨h2, h⟩ := h.req; cases h.ret; exact sound_nilCheck h1 h2
  case build => obtain ⟨ti, h1, h⟩ := h.opt; obtain ⟨vs, h2, h⟩ := h.opt; obtain ⟨v, h3, h⟩ := h.bnd; cases h.ret; exact sound_build hTT (hTT _ _ h1) h2 h3
  case buildSlice => obtain ⟨ti, h1, h⟩ := h.opt; obtain ⟨vs, h2, h⟩ := h.opt; exact sound_buildSlice hTT (hTT _ _ h1) h2 h
  case sliceToArrayPointer => obtain ⟨ti, h1, h⟩ := h.opt; obtain ⟨p, h2, h⟩ := h.opt; obtain ⟨v, h3, h⟩ := h.bnd; cases h.ret; exact sound_stap (hTT _ _ h1) h2 h3
  case makeMap T r =>
    cases r with
    | none => simp only [stepQ] at h; obtain ⟨ti, h1, h⟩ := h.opt; obtain ⟨m, h2, h⟩ := h.bnd; cases h.ret; exact sound_mkmap (mkmQ_nil h2)
    | some r => simp only [stepQ] at h; exact h.none.elim
  case lookup T x y ok =>
    cases ok with
    | false => simp only [stepQ] at h; obtain ⟨ti, h1, h⟩ := h.opt; obtain ⟨m, h2, h⟩ := h.opt; obtain ⟨k, h3, h⟩ := h.opt; obtain ⟨v, h4, h⟩ := h.bnd; cases h.ret; exact sound_lkp hTT (hTT _ _ h1) h2 h3 h4
    | true => simp only [stepQ] at h; obtain ⟨ti, h1, h⟩ := h.opt; obtain ⟨m, h2, h⟩ := h.opt; obtain ⟨k, h3, h⟩ := h.opt; obtain ⟨v, h4, h⟩ := h.bnd; cases h.ret; exact sound_lko hTT (hTT _ _ h1) h2 h3 h4
  case mapEntry => obtain ⟨ti, h1, h⟩ := h.opt; obtain ⟨m, h2, h⟩ := h.opt; obtain ⟨k, h3, h⟩ := h.opt; exact sound_mpe hTT (hTT _ _ h1) h2 h3 h
  case entryStore => obtain ⟨ti, h1, h⟩ := h.opt; obtain ⟨m, h2, h⟩ := h.opt; obtain ⟨k, h3, h⟩ := h.opt; obtain ⟨u, h4, h⟩ := h.opt; obtain ⟨d, h5, h⟩ := h.bnd; cases h.ret; exact sound_mes hTT (hTT _ _ h1) h2 h3 h4 h5
  case mapUpdate => obtain ⟨ti, h1, h⟩ := h.opt; obtain ⟨m, h2, h⟩ := h.opt; obtain ⟨k, h3, h⟩ := h.opt; obtain ⟨u, h4, h⟩ := h.opt; obtain ⟨d, h5, h⟩ := h.bnd; cases h.ret; exact sound_mup hTT (hTT _ _ h1) h2 h3 h4 h5
  case makeSlice => obtain ⟨ti, h1, h⟩ := h.opt; obtain ⟨a, h2, h⟩ := h.opt; obtain ⟨b, h3, h⟩ := h.opt; exact sound_make hTT (hTT _ _ h1) h2 h3 h
  case fieldAddr => obtain ⟨ti, h1, h⟩ := h.opt; obtain ⟨p, h2, h⟩ := h.opt; obtain ⟨v, h3, h⟩ := h.bnd; cases h.ret; exact sound_fieldAddr hTT (hTT _ _ h1) h2 h3
  case field =>
    obtain ⟨ti, h1, h⟩ := h.opt; obtain ⟨p, h2, h⟩ := h.opt
    split at h
    · next hk => obtain ⟨q, h3, h⟩ := h.opt; obtain ⟨tf, h4, h⟩ := h.opt; obtain ⟨v, h5, h⟩ := h.bnd; cases h.ret; exact sound_field hTT (hTT _ _ h1) hk h3 h4 h2 h5
    · exact h.none.elim
  case indexAddr =>
    obtain ⟨ti, h1, h⟩ := h.opt; obtain ⟨tf, h2, h⟩ := h.opt; obtain ⟨p, h3, h⟩ := h.opt; obtain ⟨j, h4, h⟩ := h.opt; obtain ⟨i, h5, h⟩ := h.opt; obtain ⟨v, h6, h⟩ := h.bnd; cases h.ret
    obtain ⟨k, rfl⟩ := asI_spec h5
    exact sound_indexAddr (hTT _ _ h1) (hTT _ _ h2) h3 h4 h6
  case index =>
    obtain ⟨ti, h1, g1⟩ := h.opt; obtain ⟨p, h3, g2⟩ := g1.opt; obtain ⟨j, h4, g3⟩ := g2.opt; obtain ⟨i, h5, g4⟩ := g3.opt
    clear h g1 g2 g3
    obtain ⟨k, hk0⟩ := asI_spec h5
    subst hk0
    split at g4
    · next hk => obtain ⟨v, h6, g5⟩ := g4.bnd; cases g5.ret; exact sound_index (hTT _ _ h1) (.inl hk) h3 h4 h6
    · next n el hk => obtain ⟨tf, h2, g5⟩ := g4.opt; obtain ⟨v, h6, g6⟩ := g5.bnd; cases g6.ret; exact sound_index (hTT _ _ h1) (.inr (by rw [hk]; exact hTT _ _ h2)) h3 h4 h6
    · exact g4.none.elim
  case slice T x lo hi mx =>
    cases mx with
    | some mx =>
      simp only [stepQ] at h
      obtain ⟨ti, h1, h⟩ := h.opt; obtain ⟨p, h2, h⟩ := h.opt; obtain ⟨l, h3, h⟩ := h.opt; obtain ⟨u, h4, h⟩ := h.opt; obtain ⟨m, h5, h⟩ := h.opt; obtain ⟨v, h6, h⟩ := h.bnd; cases h.ret; exact sound_sliceM hTT (hTT _ _ h1) h2 h3 h4 h5 h6
    | none =>
      simp only [stepQ] at h
      obtain ⟨ti, h1, h⟩ := h.opt; obtain ⟨p, h2, h⟩ := h.opt; obtain ⟨l, h3, h⟩ := h.opt; obtain ⟨u, h4, h⟩ := h.opt; obtain ⟨v, h5, h⟩ := h.bnd; cases h.ret; exact sound_slice hTT (hTT _ _ h1) h2 h3 h4 h5
end

end Sx

/- Regions, calls and functions. -/
set_option linter.unusedVariables false
set_option linter.unusedSimpArgs false
namespace Sx
open Go

mutual
/-- The one may be taken for the other: nil is an empty slice by value. -/
def AV.sub : AV → AV → Prop
  | .nils, .lstI _ xs => xs = []
  | .nils, .lstS ss => ss = []
  | .nils, .lst _ l => l = []
  | .agg l, .agg l' => AV.subL l l'
  | a, b => a = b
def AV.subL : List AV → List AV → Prop
  | [], [] => True
  | a :: l, b :: l' => AV.sub a b ∧ AV.subL l l'
  | _, _ => False
end

section
variable {ρ : Nat → Nat} {S : Nat → Prop} {w : World} {N : Nat → Prop}
mutual
theorem RC.sub : ∀ (a b : AV) (cs : List Value), RC ρ S w N a cs → AV.sub a b → RC ρ S w N b cs
  | .nils, b, cs, h, hs => by
    cases h
    cases b <;> simp only [AV.sub] at hs <;> first | (subst hs) | (cases hs; done) | skip
    · exact .nils
    · exact .lstI (k := _) (xs := []) (a := none) (cap := 0) (by simp) (by simp) (fun i x h => by simp at h)
    · exact .lstS (ss := []) (a := none) (cap := 0) (by simp) (by simp) (fun i x h => by simp at h)
    · exact .lst (l := []) (a := none) (cap := 0) (fun _ => []) (by simp) (by simp) (fun i x h => by simp at h) (fun i x h => by simp at h)
  | .agg l, b, cs, h, hs => by
    cases b <;> simp only [AV.sub] at hs <;> first | (cases hs; done) | skip
    exact RC.subL l _ cs h hs
  | .int _ _, b, cs, h, hs | .bool _, b, cs, h, hs | .str _, b, cs, h, hs | .ints _ _ _, b, cs, h, hs | .tup _, b, cs, h, hs | .ptr _ _ _ _, b, cs, h, hs | .pel _, b, cs, h, hs | .sl _ _ _ _, b, cs, h, hs
  | .nilp, b, cs, h, hs | .nilf, b, cs, h, hs | .nili, b, cs, h, hs | .nilm, b, cs, h, hs | .lstI _ _, b, cs, h, hs | .lstS _, b, cs, h, hs | .lst _ _, b, cs, h, hs | .fn _ _, b, cs, h, hs | .ifc _ _, b, cs, h, hs | .mp _, b, cs, h, hs | .unk, b, cs, h, hs => by
    simp only [AV.sub] at hs; subst hs; exact h
theorem RC.subL : ∀ (l l' : List AV) (cs : List Value), RC ρ S w N (.agg l) cs → AV.subL l l' → RC ρ S w N (.agg l') cs
  | [], [], cs, h, _ => h
  | a :: l, b :: l', cs, h, hs => by
    cases h with
    | cons h1 h2 => exact .cons (RC.sub a b _ h1 hs.1) (RC.subL l l' _ h2 hs.2)
  | [], _ :: _, _, _, hs => hs.elim
  | _ :: _, [], _, _, hs => hs.elim
end
theorem AV.sub_agg {a b : AV} (h : AV.sub a b) : b.isAgg = a.isAgg := by
  cases a <;> cases b <;> simp only [AV.sub] at h <;> first | rfl | (cases h; done) | (cases h; rfl)
theorem AV.sub_tup {l : List AV} {b : AV} (h : AV.sub (.tup l) b) : b = .tup l := by
  cases b <;> simp only [AV.sub] at h <;> first | (cases h; done) | (cases h; rfl)
theorem RV.sub {a b : AV} {v : Value} (h : RV ρ S w N a v) (hs : AV.sub a b) : RV ρ S w N b v := by
  cases h with
  | one h =>
    rename_i cs
    have e : shape a cs = shape b cs := by simp only [shape, AV.sub_agg hs]
    rw [e]; exact .one (RC.sub a b cs h hs)
  | tup hl h => rw [AV.sub_tup hs]; exact .tup hl h
theorem AV.subL_get : ∀ {l l' : List AV}, AV.subL l l' → l.length = l'.length ∧ ∀ (i : Nat) y, l'[i]? = some y → ∃ x, l[i]? = some x ∧ AV.sub x y
  | [], [], _ => ⟨rfl, fun i y h => by simp at h⟩
  | a :: l, b :: l', h => by
    obtain ⟨h1, h2⟩ := AV.subL_get (l := l) (l' := l') h.2
    refine ⟨by simp [h1], fun i y hi => ?_⟩
    cases i with
    | zero => simp at hi; subst hi; exact ⟨a, rfl, h.1⟩
    | succ i => simpa using h2 i y (by simpa using hi)
  | [], _ :: _, h => h.elim
  | _ :: _, [], h => h.elim
end

theorem FnR.sub {P : Program} {G : Nat → Option AV} {f : FuncId} {args args' : List AV} {h h' : Ents} {r : AV} (hF : FnR P G f args' h r h') (hs : AV.subL args args') : FnR P G f args h r h' := by
  intro B ρ w vs hb hm hg hl ha
  obtain ⟨h1, h2⟩ := AV.subL_get hs
  exact hF B ρ w vs hb hm hg (by rw [hl, h1]) (fun i y hy => by
    obtain ⟨x, hx, hxy⟩ := h2 i y hy
    obtain ⟨v, hv, hr⟩ := ha i x hx
    exact ⟨v, hv, hr.sub hxy⟩)

/-- A body-less function of the library, by what it reckons. -/
def ExtR (P : Program) (f : FuncId) (args : List AV) (r : AV) : Prop :=
  ∀ w, ∃ x, (callFunc f ((args.map fun a => shape a (conc a)).toArray)).run P w = .ok (.value x) w ∧ ∀ ρ S N, RV ρ S w N r x

/-- A call, by a contract. -/
inductive CallK (P : Program) (G : Nat → Option AV) (e : Ents) (nb : Nat) (f : FuncId) (as cap : List AV) (K : AV → Del → Prop) : Prop
  | fn (h h' : Ents) (args args' : List AV) (F : Bool) (r : AV) (hv : Ok (vw.vwL e h (as ++ cap)) (args, F)) (hs : AV.subL args args') (hF : FnR P G f args' h r h') (hc : Callable P f) (ht : isTupL (as ++ cap) = false) (hle : Le h e)
      (hn : ∀ n, Nm h' n → Nm h n ∨ (nb ≤ n ∧ n < nb + 16)) (hi : entsIn (Nm h) h) (hf : F = true → r.free = true ∧ entsFree h' = true) (hk : K r (callDel h h'))
  | ext (r : AV) (hc : cap = []) (hp : as.all plain = true) (hF : ExtR P f as r) (hk : K r [])
  | same (h : Ents) (args args' : List AV) (F : Bool) (r : AV) (hv : Ok (vw.vwL e h (as ++ cap)) (args, F)) (hs : AV.subL args args') (hF : FnR P G f args' h r h) (hc : Callable P f) (ht : isTupL (as ++ cap) = false) (hle : Le h e)
      (hi : entsIn (Nm h) h) (hf : F = true → r.free = true ∧ entsFree h = true) (hk : K r [])

/-- The method of a value behind an interface: the function, and what it gets as its first argument. -/
def MethOK (P : Program) (T : TypeId) (name : String) (v : AV) (f : FuncId) (rcv : AV) : Prop :=
  rcv.isTup = false ∧ Callable P f ∧ ∀ ρ S w N cs, RC ρ S w N v cs → ∃ cs', RC ρ S w N rcv cs' ∧ ∀ args, (callMethod (.iface T (shape v cs)) name args).run P w = (callFunc f (#[shape rcv cs'] ++ args)).run P w
/-- A call of a method through an interface. -/
inductive CallM (P : Program) (G : Nat → Option AV) (e : Ents) (nb : Nat) (T : TypeId) (name : String) (v : AV) (as : List AV) (K : AV → Del → Prop) : Prop
  | mk (f : FuncId) (rcv : AV) (hm : MethOK P T name v f rcv) (hk : CallK P G e nb f (rcv :: as) [] K)

def exCall (P : Program) (tt : Nat → Option TI) (G : Nat → Option AV) (t : Tms) (e : Ents) (nb : Nat) (c : Call) (K : AV → Del → Prop) : Prop :=
  match c.callee with
  | .value x =>
    match ev G t x, evL G t c.args.toList with
    | some (.fn (.func f) (.nilf :: bnd)), some as => CallK P G e nb f (bnd ++ as) [] K
    | some (.fn (.func f) cap), some as => CallK P G e nb f as cap K
    | _, _ => False
  | .invoke x name =>
    match ev G t x, evL G t c.args.toList with
    | some (.ifc T v), some as => CallM P G e nb T name v as K
    | _, _ => False
  | .builtin b =>
    match evL G t c.args.toList with
    | some as => onQ (bltQ tt e nb b c.argTypes.toList as) (fun r => K r.1 r.2) ∨ onQ (bltV tt e b c.argTypes.toList as) (fun v => K v [])
    | none => False

def exOp (P : Program) (tt : Nat → Option TI) (G : Nat → Option AV) (t : Tms) (e : Ents) (nb : Nat) (o : Op) (K : AV → Del → Prop) : Prop :=
  match o with
  | .call c => exCall P tt G t e nb c K
  | o => onQ (stepQ tt G t e nb o) fun r => K r.1 r.2

section
variable {P : Program} {tt : Nat → Option TI} {G : Nat → Option AV} {t : Tms} {e : Ents} {nb : Nat} {dst : Option Tmp} {ty : TypeId} {pos : String} {after : Array Edge} {gd : Option (Nat × Bool)}

mutual
theorem RC.plain_eq {ρ : Nat → Nat} {S : Nat → Prop} {w : World} {N : Nat → Prop} : ∀ (a : AV) (cs : List Value), RC ρ S w N a cs → plain a = true → cs = Sx.conc a
  | .int _ _, _, h, _ => by cases h; simp [Sx.conc]
  | .bool _, _, h, _ => by cases h; simp [Sx.conc]
  | .str _, _, h, _ => by cases h; simp [Sx.conc]
  | .ints _ _ _, _, h, _ => by cases h; simp [Sx.conc]
  | .nils, _, h, _ => by cases h; simp [Sx.conc]
  | .nilp, _, h, _ => by cases h; simp [Sx.conc]
  | .nilf, _, h, _ => by cases h; simp [Sx.conc]
  | .nili, _, h, _ => by cases h; simp [Sx.conc]
  | .nilm, _, h, _ => by cases h; simp [Sx.conc]
  | .agg cs, _, h, hp => by rw [Sx.conc]; exact RC.plainL_eq cs _ h (by rw [plain] at hp; exact hp)
  | .tup _, _, _, h | .ptr _ _ _ _, _, _, h | .pel _, _, _, h | .sl _ _ _ _, _, _, h | .lstI _ _, _, _, h | .lstS _, _, _, h | .lst _ _, _, _, h | .fn _ _, _, _, h | .ifc _ _, _, _, h | .mp _, _, _, h | .unk, _, _, h => by simp [plain] at h
theorem RC.plainL_eq {ρ : Nat → Nat} {S : Nat → Prop} {w : World} {N : Nat → Prop} : ∀ (l : List AV) (cs : List Value), RC ρ S w N (.agg l) cs → plain.plainL l = true → cs = Sx.conc.concL l
  | [], _, h, _ => by cases h; simp [Sx.conc.concL]
  | a :: l, _, h, hp => by
    rw [plain.plainL, Bool.and_eq_true] at hp
    cases h with
    | cons h1 h2 => rw [Sx.conc.concL, RC.plain_eq a _ h1 hp.1, RC.plainL_eq l _ h2 hp.2]
end
theorem plain_val {ρ : Nat → Nat} {S : Nat → Prop} {w : World} {N : Nat → Prop} {a : AV} {v : Value} (hp : plain a = true) (h : RV ρ S w N a v) : v = shape a (conc a) := by
  cases h with
  | one h =>
    rename_i cs
    rw [RC.plain_eq a cs h hp]
  | tup => simp [plain] at hp

theorem sound_ext {x : Operand} {xs : Array Operand} {ts : Array TypeId} {f : FuncId} {as : List AV} {r : AV} (hx : ev G t x = some (.fn (.func f) [])) (has : evL G t xs.toList = some as) (hp : as.all plain = true) (hF : ExtR P f as r) :
    OpSound P G t e nb ⟨dst, .call { callee := .value x, args := xs, argTypes := ts }, ty, pos, after, gd⟩ r [] := by
  intro B ρ D t' e' a w htt hee hg hD
  have ht : isTupL as = false := by
    clear has hF
    induction as with
    | nil => rfl
    | cons y as ih =>
      simp only [List.all_cons, Bool.and_eq_true] at hp
      simp only [isTupL, Bool.or_eq_false_iff]
      exact ⟨by cases y <;> first | rfl | (simp [plain] at hp), ih hp.2⟩
  obtain ⟨cs1, hl1, hv1, hr1⟩ := evL_sound hg htt has ht
  obtain ⟨cf, hcf, hrf⟩ := (ev_sound hg htt hx).inv (by simp)
  cases hrf with
  | fn us hus _ =>
    have hcf' : a.eval x = Value.func (.func f) #[] #[] := hcf
    have hz : (as.zip cs1).map (fun p => shape p.1 p.2) = as.map fun a => shape a (conc a) := by
      apply List.ext_getElem?
      intro i
      simp only [List.getElem?_map]
      cases hi : as[i]? with
      | none =>
        rw [List.getElem?_eq_none (by simp; have := List.getElem?_eq_none_iff.1 hi; omega)]
        rfl
      | some y =>
        obtain ⟨c, h1, h2⟩ := hr1 i y hi
        rw [zip_get hi h1]
        have : plain y = true := List.all_eq_true.1 hp y (List.mem_of_getElem? hi)
        simp only [Option.map_some]
        rw [RC.plain_eq y c h2 this]
    obtain ⟨u, h1, h2⟩ := hF w
    have e1 : xs.map a.eval = (as.map fun a => shape a (conc a)).toArray := by rw [← hz, ← hv1, ← List.map_toArray, Array.toArray_toList]
    refine .value (x := u) (w' := w) ?_ (Post.pure hg.mem (h2 _ _ _))
    simp only [execOp, resolve, hcf', Deferred.ofValue, Sem.run_bind, Sem.run_pure, Result.andThen_ok, invoke, e1]
    simpa using h1

theorem sound_extB {x : Operand} {xs : Array Operand} {ts : Array TypeId} {f : FuncId} {bnd as : List AV} {r : AV} (hx : ev G t x = some (.fn (.func f) (.nilf :: bnd))) (has : evL G t xs.toList = some as) (hp : (bnd ++ as).all plain = true) (hF : ExtR P f (bnd ++ as) r) :
    OpSound P G t e nb ⟨dst, .call { callee := .value x, args := xs, argTypes := ts }, ty, pos, after, gd⟩ r [] := by
  intro B ρ D t' e' a w htt hee hg hD
  rw [List.all_append, Bool.and_eq_true] at hp
  have ht : isTupL as = false := by
    obtain ⟨_, hp⟩ := hp
    clear has hF
    induction as with
    | nil => rfl
    | cons y as ih =>
      simp only [List.all_cons, Bool.and_eq_true] at hp
      simp only [isTupL, Bool.or_eq_false_iff]
      exact ⟨by cases y <;> first | rfl | (simp [plain] at hp), ih hp.2⟩
  obtain ⟨cs1, hl1, hv1, hr1⟩ := evL_sound hg htt has ht
  obtain ⟨cf, hcf, hrf⟩ := (ev_sound hg htt hx).inv (by simp)
  cases hrf with
  | fn us hus hne => exact absurd rfl (hne _)
  | fnb us hus =>
    have hcf' : a.eval x = Value.func (.func f) (bnd.zipIdx.map fun (x, i) => shape x (us i)).toArray #[] := hcf
    have hz : (as.zip cs1).map (fun p => shape p.1 p.2) = as.map fun a => shape a (conc a) := by
      apply List.ext_getElem?
      intro i
      simp only [List.getElem?_map]
      cases hi : as[i]? with
      | none =>
        rw [List.getElem?_eq_none (by simp; have := List.getElem?_eq_none_iff.1 hi; omega)]
        rfl
      | some y =>
        obtain ⟨c, h1, h2⟩ := hr1 i y hi
        rw [zip_get hi h1]
        have : plain y = true := List.all_eq_true.1 hp.2 y (List.mem_of_getElem? hi)
        simp only [Option.map_some]
        rw [RC.plain_eq y c h2 this]
    have hb : (bnd.zipIdx.map fun (x, i) => shape x (us i)) = bnd.map fun a => shape a (conc a) := by
      apply List.ext_getElem?
      intro i
      simp only [List.getElem?_map, List.getElem?_zipIdx, Nat.zero_add]
      cases hi : bnd[i]? with
      | none => rfl
      | some y =>
        have : plain y = true := List.all_eq_true.1 hp.1 y (List.mem_of_getElem? hi)
        simp only [Option.map_some]
        rw [RC.plain_eq y _ (hus i y hi) this]
    obtain ⟨u, h1, h2⟩ := hF w
    have e1 : xs.map a.eval = (as.map fun a => shape a (conc a)).toArray := by rw [← hz, ← hv1, ← List.map_toArray, Array.toArray_toList]
    refine .value (x := u) (w' := w) ?_ (Post.pure hg.mem (h2 _ _ _))
    rw [hb] at hcf'
    simp only [execOp, resolve, hcf', Deferred.ofValue, Sem.run_bind, Sem.run_pure, Result.andThen_ok, invoke, e1]
    simpa using h1

theorem Stab.lk_eq {B : Nat → Prop} {ρ : Nat → Nat} {e e' : Ents} {w : World} (h : ∀ k, lk e k = lk e' k) : Stab B ρ e w = Stab B ρ e' w := by
  funext b
  simp only [Stab, h]
theorem Evol.lk_eq {B : Nat → Prop} {ρ ρ' : Nat → Nat} {D D' : Nat → Prop} {e e1 e2 : Ents} {w w' : World} (he : ∀ k, lk e1 k = lk e2 k) (h : Evol B ρ D e w ρ' D' e1 w') : Evol B ρ D e w ρ' D' e2 w' := by
  have hs : Stab B ρ' e2 w' = Stab B ρ' e1 w' := (Stab.lk_eq he).symm
  exact ⟨by rw [hs]; exact h.evo, h.agree, fun m x hm => h.fresh m x (by rw [he]; exact hm), h.size, h.os, h.out, h.tape, h.others⟩
theorem Mem.lk_eq {B : Nat → Prop} {ρ : Nat → Nat} {D : Nat → Prop} {e e' : Ents} {w : World} (he : ∀ k, lk e k = lk e' k) (h : Mem B ρ D e w) : Mem B ρ D e' w := by
  have hs : Stab B ρ e' w = Stab B ρ e w := (Stab.lk_eq he).symm
  exact ⟨fun m x hm => by rw [hs]; exact h.en m x (by rw [he]; exact hm), fun m m' x x' hm hm' hq => h.inj m m' x x' (by rw [he]; exact hm) (by rw [he]; exact hm') hq⟩
/-- What is given back as it was, may be told as not touched. -/
theorem OpSound.keep {o : Oper} {r : AV} {h : Ents} (hle : Le h e) (H : OpSound P G t e nb o r (callDel h h)) : OpSound P G t e nb o r [] := by
  intro B ρ D t' e' a w htt hee hg hD
  have he : ∀ k, lk (ap (callDel h h) e') k = lk (ap [] e') k := by
    intro k
    rw [lk_callDel]
    cases hk : lk h k with
    | none => rfl
    | some x => rw [show lk (ap [] e') k = lk e' k from rfl, hee _ _ (hle _ _ hk)]; rfl
  have hp : ∀ x w', Post B ρ D e' w nb r (callDel h h) x w' → Post B ρ D e' w nb r [] x w' := by
    rintro x w' ⟨ρ', D', h1, h2, h3, h4⟩
    refine ⟨ρ', D', h1, ?_, h3.lk_eq he, h4.lk_eq he⟩
    rw [← Stab.lk_eq he]; exact h2
  cases H B ρ D t' e' a w htt hee hg hD with
  | value h1 h2 => exact .value h1 (hp _ _ h2)
  | skip h1 h2 => exact .skip h1 (hp _ _ h2)
  | enter h1 h2 => exact .enter h1 (h2.mono fun e w' ⟨x, q1, q2⟩ => ⟨x, q1, hp _ _ q2⟩)

theorem sound_invoke {x : Operand} {name : String} {xs : Array Operand} {ts : Array TypeId} {T : TypeId} {v rcv : AV} {f : FuncId} {as args' : List AV} {h h' : Ents} {r : AV} {F : Bool}
    (hx : ev G t x = some (.ifc T v)) (has : evL G t xs.toList = some as) (hm : MethOK P T name v f rcv) (ht : isTupL as = false) (hF : FnR P G f args' h r h') (hle : Le h e)
    (hvw : Ok (vw.vwL e h (rcv :: as)) (args', F)) (hnew : ∀ n, Nm h' n → Nm h n ∨ (nb ≤ n ∧ n < nb + 16)) (hin : entsIn (Nm h) h) (hfree : F = true → r.free = true ∧ entsFree h' = true) :
    OpSound P G t e nb ⟨dst, .call { callee := .invoke x name, args := xs, argTypes := ts }, ty, pos, after, gd⟩ r (callDel h h') := by
  obtain ⟨hrt, hcal, hm⟩ := hm
  refine sound_callX (all := rcv :: as) (fun B ρ D t' e' a w htt hg => ?_) hF hle hvw hnew hin hfree
  obtain ⟨cs1, hl1, hv1, hr1⟩ := evL_sound hg htt has ht
  obtain ⟨cf, hcf, hrf⟩ := (ev_sound hg htt hx).inv (by simp)
  cases hrf with
  | ifc hrv =>
    rename_i cv
    obtain ⟨cs', h1, h2⟩ := hm _ _ _ _ _ hrv
    have hcf' : a.eval x = Value.iface T (shape v cv) := hcf
    refine ⟨cs' :: cs1, by simp [hl1], ?_, ?_⟩
    · intro i y hi
      cases i with
      | zero => simp at hi; subst hi; exact ⟨cs', rfl, h1⟩
      | succ i =>
        obtain ⟨c, k1, k2⟩ := hr1 i y (by simpa using hi)
        exact ⟨c, by simpa using k1, k2⟩
    · have e1 : xs.map a.eval = ((as.zip cs1).map fun p => shape p.1 p.2).toArray := by rw [← hv1, ← List.map_toArray, Array.toArray_toList]
      have e3 : ∀ ys : Array Value, (#[a.eval x] ++ ys).extract 1 (#[a.eval x] ++ ys).size = ys := by intro ys; simp
      have e4 : ∀ ys : Array Value, (#[a.eval x] ++ ys)[0]? = some (a.eval x) := by intro ys; rw [Array.getElem?_append_left (by simp)]; rfl
      simp only [execOp, resolve, Sem.run_bind, Sem.run_pure, Result.andThen_ok, invoke, e3, e4]
      rw [hcf', h2, hcal.run, e1]
      simp
theorem exOp_sound (hTT : TT P tt) {o : Op} {K : AV → Del → Prop} (h : exOp P tt G t e nb o K) : ∃ v d, K v d ∧ OpSound P G t e nb ⟨dst, o, ty, pos, after, gd⟩ v d := by
  by_cases hc : ∃ c, o = .call c
  · obtain ⟨c, rfl⟩ := hc
    simp only [exOp, exCall] at h
    obtain ⟨cal, xs, ts⟩ := c
    cases cal with
    | value x =>
      simp only at h
      split at h
      · next f bnd as hx has =>
        cases h with
        | fn h h' args args' F r hv hs hF hcal ht hle hn hi hf hk =>
          rw [List.append_nil] at hv ht
          exact ⟨r, _, hk, sound_callB hx has ht (hF.sub hs) hle hcal hv hn hi hf⟩
        | same h args args' F r hv hs hF hcal ht hle hi hf hk =>
          rw [List.append_nil] at hv ht
          exact ⟨r, _, hk, OpSound.keep hle (sound_callB hx has ht (hF.sub hs) hle hcal hv (fun _ q => .inl q) hi hf)⟩
        | ext r hc hp hF hk => exact ⟨r, _, hk, sound_extB hx has hp hF⟩
      · next f cap as hcap hx has =>
        cases h with
        | fn h h' args args' F r hv hs hF hcal ht hle hn hi hf hk => exact ⟨r, _, hk, sound_call hx (fun l hl => hcap l hl) has ht (hF.sub hs) hle hcal hv hn hi hf⟩
        | same h args args' F r hv hs hF hcal ht hle hi hf hk => exact ⟨r, _, hk, OpSound.keep hle (sound_call hx (fun l hl => hcap l hl) has ht (hF.sub hs) hle hcal hv (fun _ q => .inl q) hi hf)⟩
        | ext r hc hp hF hk => subst hc; exact ⟨r, _, hk, sound_ext hx has hp hF⟩
      · exact h.elim
    | invoke x name =>
      simp only at h
      split at h
      · next T v as hx has =>
        obtain ⟨f, rcv, hm, hk⟩ := h
        cases hk with
        | fn h h' args args' F r hv hs hF hcal ht hle hn hi hf hk =>
          rw [List.append_nil] at hv ht
          exact ⟨r, _, hk, sound_invoke hx has hm (by simp only [isTupL, Bool.or_eq_false_iff] at ht; exact ht.2) (hF.sub hs) hle hv hn hi hf⟩
        | same h args args' F r hv hs hF hcal ht hle hi hf hk =>
          rw [List.append_nil] at hv ht
          exact ⟨r, _, hk, OpSound.keep hle (sound_invoke hx has hm (by simp only [isTupL, Bool.or_eq_false_iff] at ht; exact ht.2) (hF.sub hs) hle hv (fun _ q => .inl q) hi hf)⟩
        | ext r hc hp hF hk =>
          obtain ⟨y, h1, _⟩ := hF (default : World)
          rw [hm.2.1.run] at h1
          cases h1
      · exact h.elim
    | builtin b =>
      simp only at h
      split at h
      · next as has =>
        rcases h with h | h
        · obtain ⟨⟨v, d⟩, h1, h2⟩ := onQ_spec h; exact ⟨v, d, h2, sound_blt hTT has h1⟩
        · obtain ⟨v, h1, h2⟩ := onQ_spec h; exact ⟨v, [], h2, sound_bltV hTT has h1⟩
      · exact h.elim
  · have : exOp P tt G t e nb o K = onQ (stepQ tt G t e nb o) fun r => K r.1 r.2 := by
      cases o <;> first | rfl | exact absurd ⟨_, rfl⟩ hc
    rw [this] at h
    obtain ⟨⟨v, d⟩, h1, h2⟩ := onQ_spec h
    exact ⟨v, d, h2, stepQ_sound hTT h1⟩

theorem exOp_nodefer {o : Op} {K : AV → Del → Prop} (h : exOp P tt G t e nb o K) : ∀ c, o ≠ .defer c := by
  rintro c rfl
  simp only [exOp, stepQ] at h
  exact h.elim
/-- Operations in the order of the text. -/
def exOps (P : Program) (tt : Nat → Option TI) (G : Nat → Option AV) (all : List Oper) : List Oper → St → (St → Prop) → Prop
  | [], st, K => K st
  | o :: rest, st, K =>
    match o.guard with
    | none => inB o.dst st.m ∧ exOp P tt G st.t st.e st.n o.op fun v d => exOps P tt G all rest ⟨putT st.t o.dst v, ap d st.e, st.n + 16, st.m⟩ K
    | some (j, want) =>
      match ((all[j]?).bind (·.dst)).bind (lk st.t) with
      | some (.bool b) => inB o.dst st.m ∧ (b = want → exOp P tt G st.t st.e st.n o.op fun v d => exOps P tt G all rest ⟨putT st.t o.dst v, ap d st.e, st.n + 16, st.m⟩ K) ∧
          (b ≠ want → exOps P tt G all rest ⟨putT st.t o.dst (.tup []), st.e, st.n + 16, st.m⟩ K)
      | some (.tup []) => inB o.dst st.m ∧ exOps P tt G all rest ⟨putT st.t o.dst (.tup []), st.e, st.n + 16, st.m⟩ K
      | _ => False

theorem exOps_sound {ro : Option Nat} (hTT : TT P tt) {h : Ents} {C : Ctx} {all : List Oper} {K : St → Prop} {Q : Exit → Act → World → Prop} (hQ : ∀ st a w, K st → At G h C st a w → Q .normal a w) :
    ∀ (ops : List Oper) (st : St) (a : Act) (w : World), At G h C st a w → exOps P tt G all ops st K → wpListIn (fr ro) 0 P all.toArray Q ops a w
  | [], st, a, w, ha, hk => wpListIn_nil (hQ st a w hk ha)
  | o :: rest, st, a, w, ha, hk => by
    obtain ⟨dst, op, ty, pos, after, gd⟩ := o
    simp only [exOps] at hk
    refine wpListIn_step (fun K' hK' => ?_)
    have run : ∀ (hm : inB dst st.m) (h : exOp P tt G st.t st.e st.n op fun v d => exOps P tt G all rest ⟨putT st.t dst v, ap d st.e, st.n + 16, st.m⟩ K), Oper.wpIn (fr ro) 0 P ⟨dst, op, ty, pos, after, gd⟩ a w K' Q := by
      intro hm hop
      obtain ⟨v, d, h1, h2⟩ := exOp_sound (dst := dst) (ty := ty) (pos := pos) (after := after) (gd := gd) hTT hop
      obtain ⟨ρ, D, hg, hd, hD, hev⟩ := ha
      refine (h2 C.B ρ D st.t st.e a w (fun _ _ h => h) (fun _ _ h => h) hg (fun n h1 h2 hn => by have := hD n hn; omega)).wpI (exOp_nodefer hop) (fun x w' hp => hK' _ _ ?_)
      exact exOps_sound hTT hQ rest _ _ _ (At.step hg hd hD hev hm hp) h1
    cases gd with
    | none => simp only [Region.wanted, if_true]; exact run hk.1 hk.2
    | some g =>
      obtain ⟨j, want⟩ := g
      simp only at hk
      split at hk
      · next b hb =>
        obtain ⟨hm, h1, h2⟩ := hk
        have hy : yielded all.toArray a.tmps j = some b := by
          obtain ⟨ρ, D, hg, _⟩ := id ha
          rw [Option.bind_eq_some_iff] at hb
          obtain ⟨dj, hd1, hd2⟩ := hb
          obtain ⟨v, hv1, hv2⟩ := hg.tm _ _ hd2
          rw [hv2.bool_inv] at hv1
          unfold yielded
          have : (all.toArray[j]?).bind (·.dst) = some dj := by simpa using hd1
          rw [this, Option.bind_some, hv1]
        simp only [Region.wanted, hy]
        by_cases hq : b = want
        · rw [if_pos (by simp [hq])]; exact run hm (h1 hq)
        · rw [if_neg (by simp [hq])]
          refine ⟨fun f _ => fr_fn f, hK' _ _ (exOps_sound hTT hQ rest _ _ _ ?_ (h2 hq))⟩
          obtain ⟨ρ, D, hg, hd, hD, hev⟩ := ha
          exact At.step (d := []) hg hd hD hev hm (Post.pure hg.mem .unit)
      · next hb =>
        obtain ⟨hm, h2⟩ := hk
        have hy : yielded all.toArray a.tmps j = none := by
          obtain ⟨ρ, D, hg, _⟩ := id ha
          rw [Option.bind_eq_some_iff] at hb
          obtain ⟨dj, hd1, hd2⟩ := hb
          obtain ⟨v, hv1, hv2⟩ := hg.tm _ _ hd2
          obtain ⟨vs, hv, _, _⟩ := hv2.tup_inv
          rw [hv] at hv1
          unfold yielded
          have : (all.toArray[j]?).bind (·.dst) = some dj := by simpa using hd1
          rw [this, Option.bind_some, hv1]
        simp only [Region.wanted, hy]
        rw [if_neg (by simp)]
        refine ⟨fun f _ => fr_fn f, hK' _ _ (exOps_sound hTT hQ rest _ _ _ ?_ h2)⟩
        obtain ⟨ρ, D, hg, hd, hD, hev⟩ := ha
        exact At.step (d := []) hg hd hD hev hm (Post.pure hg.mem .unit)
      · exact hk.elim

theorem W.region {ro : Option Nat} (hTT : TT P tt) {h : Ents} {id : Nat} {ops : List Oper} {st : St} {Q : Exit → St → Prop} (hk : exOps P tt G ops ops st (Q .normal)) : W ro P G h (.region id ops.toArray false) st Q := by
  intro C a w ha
  exact wpIn_region_lit (exOps_sound hTT (fun s a w h1 h2 => ⟨s, h1, h2⟩) ops st a w ha hk)

/-! ### Functions -/

def resQ (tt : Nat → Option TI) (e : Ents) (t : Tms) : List ResultVar → Q (List AV)
  | [] => ret []
  | .tmp i :: l => opt (lk t i) fun v => req (v.isTup = false) (bnd (resQ tt e t l) fun r => ret (v :: r))
  | .cell i T :: l => opt (tt T) fun ti => opt (lk t i) fun p => bnd (ldP e ti p) fun v => req (v.isTup = false) (bnd (resQ tt e t l) fun r => ret (v :: r))
def resV : List AV → AV
  | [v] => v
  | l => .tup l

theorem resQ_run (hTT : TT P tt) {B : Nat → Prop} {ρ : Nat → Nat} {D : Nat → Prop} {a : Act} {w : World} (hg : Good B G ρ D t e a w) : ∀ (l : List ResultVar) (vs : List AV), Ok (resQ tt e t l) vs →
    ∃ us : List Value, (l.mapM fun | .tmp t => pure (a.tmps.getD t undef) | .cell p t => do loadVar t (← asAddr (a.tmps.getD p undef)) : Sem (List Value)).run P w = .ok us w ∧ us.length = vs.length ∧
      ∀ (i : Nat) x, vs[i]? = some x → x.isTup = false ∧ ∃ cs, RC ρ (Stab B ρ e w) w D x cs ∧ us[i]? = some (shape x cs)
  | [], vs, h => by cases h.ret; exact ⟨[], by simp, rfl, fun i x hi => by simp at hi⟩
  | .tmp i :: l, vs, h => by
    simp only [resQ] at h
    obtain ⟨v, h1, h⟩ := h.opt
    obtain ⟨h2, h⟩ := h.req
    obtain ⟨r, h3, h⟩ := h.bnd
    cases h.ret
    obtain ⟨us, k1, k2, k3⟩ := resQ_run hTT hg l r h3
    obtain ⟨u, g1, g2⟩ := hg.tm i v h1
    obtain ⟨cs, g3, g4⟩ := g2.inv (notTup h2)
    refine ⟨u :: us, ?_, by simp [k2], fun j x hj => ?_⟩
    · simp only [List.mapM_cons, Sem.run_bind, Sem.run_pure, Result.andThen_ok, k1]
      simp [g1]
    · cases j with
      | zero => simp at hj; subst hj; exact ⟨h2, cs, g4, by simp [g3]⟩
      | succ j => simpa using k3 j x (by simpa using hj)
  | .cell i T :: l, vs, h => by
    simp only [resQ] at h
    obtain ⟨ti, h0, h⟩ := h.opt
    obtain ⟨p, h1, h⟩ := h.opt
    obtain ⟨v, h4, h⟩ := h.bnd
    obtain ⟨h2, h⟩ := h.req
    obtain ⟨r, h3, h⟩ := h.bnd
    cases h.ret
    obtain ⟨us, k1, k2, k3⟩ := resQ_run hTT hg l r h3
    obtain ⟨u, g1, g2⟩ := hg.tm i p h1
    obtain ⟨b, o, y, q1, q2, q3⟩ := ldP_run (P := P) hg (fun _ _ h => h) (hTT _ _ h0) g2 h4
    obtain ⟨cs, g3, g4⟩ := q2.inv (notTup h2)
    refine ⟨y :: us, ?_, by simp [k2], fun j x hj => ?_⟩
    · have : a.tmps.getD i undef = .pointer (some ⟨b, o, none⟩) := by simp [g1, q1]
      have hA : (asAddr (.pointer (some ⟨b, o, none⟩))).run P w = .ok ⟨b, o, none⟩ w := by simp [asAddr]
      simp only [List.mapM_cons, Sem.run_bind, Sem.run_pure, Result.andThen_ok, k1, this, hA, q3]
    · cases j with
      | zero => simp at hj; subst hj; exact ⟨h2, cs, g4, by simp [g3]⟩
      | succ j => simpa using k3 j x (by simpa using hj)

theorem results_run (hTT : TT P tt) {B : Nat → Prop} {ρ : Nat → Nat} {D : Nat → Prop} {a : Act} {w : World} (hg : Good B G ρ D t e a w) {fn : Func} {vs : List AV} (h : Ok (resQ tt e t fn.results.toList) vs) :
    ∃ u, (results fn a.tmps).run P w = .ok u w ∧ RV ρ (Stab B ρ e w) w D (resV vs) u := by
  obtain ⟨us, h1, h2, h3⟩ := resQ_run hTT hg _ _ h
  refine ⟨if h : us.toArray.size = 1 then us.toArray[0] else .tuple us.toArray, ?_, ?_⟩
  · simp only [results, Sem.run_bind]
    rw [Array.mapM_eq_mapM_toList]
    simp only [Sem.run_map, Sem.run_pure]
    exact congrArg (fun r : Result (List Value) => (r.andThen fun a w' => Result.ok a.toArray w').andThen fun (a : Array Value) w' => Result.ok (if h : a.size = 1 then a[0] else Value.tuple a) w') h1
  · match vs, us, h2, h3 with
    | [v], [u], _, h3 =>
      obtain ⟨_, cs, k1, k2⟩ := h3 0 v rfl
      simp at k2
      simp only [resV, List.size_toArray, List.length_singleton, dite_true]
      show RV _ _ _ _ v u
      rw [k2]; exact .one k1
    | [], [], _, _ => exact .unit
    | v1 :: v2 :: vs, u1 :: u2 :: us, h2, h3 =>
      rw [dif_neg (by simp)]
      exact .tup h2 (fun i x hi => let ⟨_, cs, k1, k2⟩ := h3 i x hi; ⟨cs, k1, k2⟩)
end

/-- The parameters, in the first slots. -/
def parT : Nat → List AV → Tms
  | _, [] => []
  | i, a :: l => (i, a) :: parT (i + 1) l
theorem lk_parT : ∀ (l : List AV) (i j : Nat) (x : AV), lk (parT i l) j = some x → i ≤ j ∧ l[j - i]? = some x
  | [], i, j, x, h => by cases h
  | a :: l, i, j, x, h => by
    simp only [parT, lk] at h
    split at h
    · next hq => subst hq; cases h; simp
    · next hq =>
      obtain ⟨h1, h2⟩ := lk_parT l (i + 1) j x h
      refine ⟨by omega, ?_⟩
      rw [show j - i = (j - (i + 1)) + 1 from by omega]
      simpa using h2

theorem calls_of_marks {P : Program} {G : Nat → Option AV} {h : Ents} {C : Ctx} {f : FuncId} {fn : Func} {c : Code} {args : Array Value} {w : World} {R : Ending → World → Prop} {Z : Exit → St → Prop} (hf : P.funcs[f]? = some fn) (hb : fn.body = some c)
    (hsp : ∀ b o, ¬ C.sp b o) (htl : C.tail = []) (hc : c.wpIn (fr none) 0 P (fun x a' w' => ∃ st', Z x st' ∧ At G h C st' a' w') { tmps := args ++ Array.replicate (fn.ntmps - args.size) undef, defers := [] } w)
    (hz : ∀ x st, Z x st → x = .normal ∨ x = .ret) (hR : ∀ x st tmps w', Z x st → At G h C st { tmps, defers := [] } w' → ∃ v, (results fn tmps).run P w' = .ok v w' ∧ R (.returned v) w') : Calls P f args w R := by
  refine (callsIn_wide (n := 0)).1 (callsIn_of_wp_marks (F := fr none) hf hb trivial (wpIn_mono hc ?_))
  rintro x ⟨tmps, ds⟩ w' ⟨st, h1, h2⟩
  obtain ⟨ρ, D, hg, hd, hD, hev⟩ := id h2
  obtain ⟨_, dl, h3, _⟩ := hd.1
  have h3 : ds = mks dl ++ C.tail := h3
  subst h3
  obtain ⟨w2, h4, h5⟩ := At.leave (P := P) (fn := fn) (R := R) (u := .returning) (fun q => by cases q) hsp dl w' h2
  rw [htl] at h4 h5
  have fin := h5 (hR x st tmps w2 h1 h4)
  rcases hz x st h1 with rfl | rfl
  · show LeavesInM _ _ _ _ _ _ (mks dl ++ C.tail) _ _; rw [htl]; exact fin
  · show LeavesInM _ _ _ _ _ _ (mks dl ++ C.tail) _ _; rw [htl]; exact fin

/-- A function's contract, by its body. -/
theorem FnR.of_body {P : Program} {tt : Nat → Option TI} {G : Nat → Option AV} (hTT : TT P tt) {f : FuncId} {fn : Func} {c : Code} {args : List AV} {h h' : Ents} {r : AV} {n0 m : Nat} (hf : P.funcs[f]? = some fn) (hb : fn.body = some c)
    (hm : fn.ntmps = m) (hargs : args.length ≤ m) (hn0 : ∀ n, Nm h n → n < n0)
    (hW : W none P G h c ⟨parT 0 args, h, n0, m⟩ fun x st => (x = .normal ∨ x = .ret) ∧ ∃ vs, Ok (resQ tt st.e st.t fn.results.toList) vs ∧ resV vs = r ∧ Le h' st.e ∧ r.nmIn (Nm h') ∧ entsIn (Nm h') h') :
    FnR P G f args h r h' := by
  intro B ρ w vs hbig hmem hgl hlen ha
  subst hm
  refine calls_of_marks hf hb (fun _ _ h => h) rfl (hW ⟨B, ρ, w, hbig, fun _ _ => False, []⟩ _ w ?_) (fun x st hx => hx.1) ?_
  · refine ⟨ρ, Nm h, ⟨hmem, fun i x hi => ?_, hbig, hgl⟩, ⟨Mk.nil rfl, ?_⟩, hn0, Evol.refl w⟩
    · obtain ⟨_, h2⟩ := lk_parT args 0 i x hi
      obtain ⟨v, h3, h4⟩ := ha i x (by simpa using h2)
      have hlt := (List.getElem?_eq_some_iff.1 h3).1
      exact ⟨v, by simp only [Array.getElem?_append, List.size_toArray]; rw [if_pos hlt]; simpa using h3, h4⟩
    · simp; omega
  · rintro x st tmps' w' ⟨hx, us, h1, h2, h3, h4, h5⟩ hat
    obtain ⟨ρ', D', hg, hd, hD, hev⟩ := hat
    obtain ⟨u, h6, h7⟩ := results_run (P := P) hTT hg h1
    rw [h2] at h7
    have hS : ∀ b, Stab B ρ' st.e w' b → Stab B ρ' h' w' b := fun b hb => ⟨hb.1, hb.2.1, fun m x hm => hb.2.2 m x (h3 _ _ hm)⟩
    have hself : Evo (Stab B ρ' st.e w') (Stab B ρ' h' w') w' w' := ⟨fun b hb => ⟨hS b hb, rfl⟩, fun b n hb => hb⟩
    have fin : ∃ x ρ', Ending.returned u = .returned x ∧ RV ρ' (Stab B ρ' h' w') w' (Nm h') r x ∧ Mem B ρ' (Nm h') h' w' ∧ Kept B ρ h w ρ' h' w' := by
      refine ⟨u, ρ', rfl, (h7.restrict h4).mono hself (fun n hn => ⟨hn, rfl⟩), ⟨fun m x hm => ⟨by simp [Nm, hm], ?_⟩, fun m m' x x' hm hm' hq => hg.mem.inj m m' x x' (h3 _ _ hm) (h3 _ _ hm') hq⟩,
        ⟨fun b hb => ⟨hS b (hev.evo.stable b hb).1, (hev.evo.stable b hb).2⟩, hev.evo.sized⟩, fun n h1 _ => (hev.agree n h1).2, fun m x hm => hev.fresh m x (h3 _ _ hm), hev.size, hev.os, hev.out, hev.tape, hev.others⟩
      exact ((hg.mem.en m x (h3 _ _ hm)).2.restrict (entsIn_get h5 m x hm)).mono hself (fun n hn => ⟨hn, rfl⟩) rfl
    exact ⟨u, h6, fin⟩

end Sx

/- Steps, with what follows behind a name. -/
set_option linter.unusedVariables false
set_option linter.unusedSimpArgs false
namespace Sx
open Go

def thn (K : St → Prop) (Q : Exit → St → Prop) : Exit → St → Prop
  | .normal, s => K s
  | z, s => Q z s
def inb (id : Nat) (Q : Exit → St → Prop) : Exit → St → Prop
  | .exit i, s => if i = id then Q .normal s else Q (.exit i) s
  | z, s => Q z s
theorem thn_normal (K : St → Prop) (Q : Exit → St → Prop) (s : St) : thn K Q .normal s = K s := rfl
theorem thn_exit (K : St → Prop) (Q : Exit → St → Prop) (i : Nat) (s : St) : thn K Q (.exit i) s = Q (.exit i) s := rfl
theorem thn_ret (K : St → Prop) (Q : Exit → St → Prop) (s : St) : thn K Q .ret s = Q .ret s := rfl
theorem inb_normal (id : Nat) (Q : Exit → St → Prop) (s : St) : inb id Q .normal s = Q .normal s := rfl
theorem inb_ret (id : Nat) (Q : Exit → St → Prop) (s : St) : inb id Q .ret s = Q .ret s := rfl
theorem inb_exit (id i : Nat) (Q : Exit → St → Prop) (s : St) : inb id Q (.exit i) s = if i = id then Q .normal s else Q (.exit i) s := rfl

section
variable {ro : Option Nat} {P : Program} {tt : Nat → Option TI} {G : Nat → Option AV} {h : Ents}
theorem W.seqK {x y : Code} {st : St} {Q : Exit → St → Prop} (hx : ∀ K : St → Prop, (∀ s, W ro P G h y s Q → K s) → W ro P G h x st (thn K Q)) : W ro P G h (.seq x y) st Q :=
  W.seq ((hx _ fun _ h => h).mono fun z s hz => by cases z <;> exact hz)
theorem W.blockK {id : Nat} {c : Code} {st : St} {Q : Exit → St → Prop} (hc : W ro P G h c st (inb id Q)) : W ro P G h (.block id c) st Q :=
  W.block (hc.mono fun z s hz => by cases z <;> exact hz)
theorem W.regionK (hTT : TT P tt) {id : Nat} {ops : List Oper} {st : St} {K : St → Prop} {Q : Exit → St → Prop} (hk : exOps P tt G ops ops st K) : W ro P G h (.region id ops.toArray false) st (thn K Q) :=
  W.region hTT hk

/-- Rounds of a loop, one by one. -/
def WR (ro : Option Nat) (P : Program) (G : Nat → Option AV) (h : Ents) (c : Code) (Q : Exit → St → Prop) : Nat → St → Prop
  | 0, _ => False
  | n + 1, st => W ro P G h c st (thn (WR ro P G h c Q n) Q)
theorem W.rounds {c : Code} {st : St} {Q : Exit → St → Prop} (n : Nat) (hr : WR ro P G h c Q n st) : W ro P G h (.loop c) st Q := by
  intro C a w ha
  refine wpIn_loop_rounds n ?_
  induction n generalizing st a w with
  | zero => exact hr.elim
  | succ n ih =>
    rw [roundsIn_succ]
    refine wpIn_mono (hr C a w ha) ?_
    rintro z a' w' ⟨s, h1, h2⟩
    cases z with
    | normal => exact ih h1 a' w' h2
    | _ => exact ⟨s, h1, h2⟩
theorem WR.next {c : Code} {st : St} {Q : Exit → St → Prop} {n : Nat} (hc : ∀ K : St → Prop, (∀ s, WR ro P G h c Q n s → K s) → W ro P G h c st (thn K Q)) : WR ro P G h c Q (n + 1) st := hc _ fun _ h => h

def leL {α : Type} (t t' : List (Nat × α)) : Prop :=
  match t with
  | [] => True
  | (i, x) :: l => lk t' i = some x ∧ leL l t'
def nmT (n : Nat) : Tms → Prop
  | [] => True
  | (_, x) :: l => x.nmIn (· < n) ∧ nmT n l
def nmE (n : Nat) : Ents → Prop
  | [] => True
  | (m, x) :: l => (m < n ∧ x.nmIn (· < n)) ∧ nmE n l
def nmH (n : Nat) : Ents → Prop
  | [] => True
  | (m, _) :: l => m < n ∧ nmH n l
theorem leL_le {α : Type} {t t' : List (Nat × α)} (hl : leL t t') : Le t t' := by
  induction t with
  | nil => intro i x hx; cases hx
  | cons p t ih =>
    obtain ⟨k, y⟩ := p
    intro i x hx
    simp only [lk] at hx
    split at hx
    · next hq => subst hq; cases hx; exact hl.1
    · exact ih hl.2 i x hx
theorem nmT_get {n : Nat} {t : Tms} (hl : nmT n t) : ∀ i x, lk t i = some x → x.nmIn (· < n) := by
  induction t with
  | nil => intro i x hx; cases hx
  | cons p t ih =>
    obtain ⟨k, y⟩ := p
    intro i x hx
    simp only [lk] at hx
    split at hx
    · cases hx; exact hl.1
    · exact ih hl.2 i x hx
theorem nmE_get {n : Nat} {t : Ents} (hl : nmE n t) : ∀ i x, lk t i = some x → i < n ∧ x.nmIn (· < n) := by
  induction t with
  | nil => intro i x hx; cases hx
  | cons p t ih =>
    obtain ⟨k, y⟩ := p
    intro i x hx
    simp only [lk] at hx
    split at hx
    · next hq => subst hq; cases hx; exact hl.1
    · exact ih hl.2 i x hx
theorem nmH_get {n : Nat} {t : Ents} (hl : nmH n t) : ∀ i, Nm t i → i < n := by
  induction t with
  | nil => intro i hx; cases hx
  | cons p t ih =>
    obtain ⟨k, y⟩ := p
    intro i hx
    simp only [Nm, lk] at hx
    split at hx
    · next hq => subst hq; exact hl.1
    · exact ih hl.2 i hx
/-- Weakening, as a list of facts. -/
def wk (h : Ents) (s s' : St) : Prop := s'.m = s.m ∧ leL s'.t s.t ∧ leL s'.e s.e ∧ nmT s'.n s'.t ∧ nmE s'.n s'.e ∧ nmH s'.n h
theorem Wk.of {s s' : St} (hk : wk h s s') : Wk h s s' := ⟨leL_le hk.2.1, leL_le hk.2.2.1, nmT_get hk.2.2.2.1, nmE_get hk.2.2.2.2.1, nmH_get hk.2.2.2.2.2, hk.1⟩

theorem W.loopK {ι : Type} {c : Code} {st : St} {Q : Exit → St → Prop} (p : ι → Prop) (I : ι → St) (μ : ι → Nat) (i0 : ι) (hp : p i0) (h0 : wk h st (I i0))
    (round : ∀ i, p i → ∀ K : St → Prop, (∀ s j, p j → μ j < μ i → wk h s (I j) → K s) → W ro P G h c (I i) (thn K Q)) : W ro P G h (.loop c) st Q :=
  W.loop (ι := { i // p i }) (fun i => I i.1) (fun i => μ i.1) ⟨i0, hp⟩ (Wk.of h0) fun i => (round i.1 i.2 (fun s => ∃ j : { i // p i }, Wk h s (I j.1) ∧ μ j.1 < μ i.1) (fun s j h1 h2 h3 => ⟨⟨j, h1⟩, Wk.of h3, h2⟩)).mono fun z s hz => by cases z <;> exact hz
theorem W.weak {c : Code} {st : St} (st' : St) {Q : Exit → St → Prop} (hk : wk h st st') (hw : W ro P G h c st' Q) : W ro P G h c st Q := W.weaken (Wk.of hk) hw
end
end Sx

/- Regions that draw their order. -/
set_option linter.unusedVariables false
set_option linter.unusedSimpArgs false
namespace Sx
open Go

/-- A table of results: of each operation its value, and what became of the entries. -/
abbrev Tab := Nat → AV × Del
def dstOf (ops : List Oper) (i : Nat) : Option Tmp := (ops[i]?).bind (·.dst)
/-- The state behind some operations. -/
def tF (ops : List Oper) (V : Tab) (t : Tms) : List Nat → Tms
  | [] => t
  | j :: l => tF ops V (putT t (dstOf ops j) (V j).1) l
def eF (V : Tab) (e : Ents) : List Nat → Ents
  | [] => e
  | j :: l => eF V (ap (V j).2 e) l
theorem tF_append (ops : List Oper) (V : Tab) : ∀ (l l' : List Nat) (t : Tms), tF ops V t (l ++ l') = tF ops V (tF ops V t l) l'
  | [], _, _ => rfl
  | j :: l, l', t => tF_append ops V l l' _
theorem eF_append (V : Tab) : ∀ (l l' : List Nat) (e : Ents), eF V e (l ++ l') = eF V (eF V e l) l'
  | [], _, _ => rfl
  | j :: l, l', t => eF_append V l l' _
theorem tF_congr {ops : List Oper} {V V' : Tab} : ∀ {l : List Nat} {t : Tms}, (∀ j ∈ l, V j = V' j) → tF ops V t l = tF ops V' t l
  | [], _, _ => rfl
  | j :: l, t, h => by simp only [tF]; rw [h j (by simp), tF_congr (l := l) (fun k hk => h k (by simp [hk]))]
theorem eF_congr {V V' : Tab} : ∀ {l : List Nat} {t : Ents}, (∀ j ∈ l, V j = V' j) → eF V t l = eF V' t l
  | [], _, _ => rfl
  | j :: l, t, h => by simp only [eF]; rw [h j (by simp), eF_congr (l := l) (fun k hk => h k (by simp [hk]))]

/-- The operation touches the entry. -/
def tch (V : Tab) (n j : Nat) : Bool := (V j).2.any (·.1 == n)

theorem lk_ap_not {d : Del} : ∀ {e : Ents} {n : Nat}, d.any (·.1 == n) = false → lk (ap d e) n = lk e n := by
  induction d with
  | nil => intro e n _; rfl
  | cons p d ih =>
    obtain ⟨k, x⟩ := p
    intro e n h
    simp only [List.any_cons, Bool.or_eq_false_iff, beq_eq_false_iff_ne] at h
    rw [ap, ih h.2, lk_up, if_neg h.1]
theorem lk_ap_congr {d : Del} : ∀ {e e' : Ents} {n : Nat}, lk e n = lk e' n → lk (ap d e) n = lk (ap d e') n := by
  induction d with
  | nil => intro e e' n h; exact h
  | cons p d ih =>
    obtain ⟨k, x⟩ := p
    intro e e' n h
    simp only [ap]
    apply ih
    rw [lk_up, lk_up, h]
theorem lk_eF_congr {V : Tab} : ∀ {l : List Nat} {e e' : Ents} {n : Nat}, lk e n = lk e' n → lk (eF V e l) n = lk (eF V e' l) n
  | [], _, _, _, h => h
  | j :: l, e, e', n, h => lk_eF_congr (l := l) (lk_ap_congr h)
theorem lk_eF_filter {V : Tab} : ∀ (l : List Nat) (e : Ents) (n : Nat), lk (eF V e l) n = lk (eF V e (l.filter (tch V n))) n
  | [], _, _ => rfl
  | j :: l, e, n => by
    simp only [eF]
    by_cases h : tch V n j = true
    · rw [List.filter_cons_of_pos h]; simp only [eF]; exact lk_eF_filter l _ n
    · have h' : tch V n j = false := by simpa using h
      rw [List.filter_cons_of_neg h, ← lk_eF_filter l e n]
      exact lk_eF_congr (lk_ap_not h')

def wr (ops : List Oper) (s j : Nat) : Bool := dstOf ops j == some s
theorem lk_putT_not {t : Tms} {d : Option Tmp} {v : AV} {s : Nat} (h : (d == some s) = false) : lk (putT t d v) s = lk t s := by
  cases d with
  | none => rfl
  | some d => rw [lk_putT, if_neg]; rintro rfl; simp at h
theorem lk_putT_congr {t t' : Tms} {d : Option Tmp} {v : AV} {s : Nat} (h : lk t s = lk t' s) : lk (putT t d v) s = lk (putT t' d v) s := by
  cases d with
  | none => exact h
  | some d => rw [lk_putT, lk_putT, h]
theorem lk_tF_congr {ops : List Oper} {V : Tab} : ∀ {l : List Nat} {t t' : Tms} {s : Nat}, lk t s = lk t' s → lk (tF ops V t l) s = lk (tF ops V t' l) s
  | [], _, _, _, h => h
  | j :: l, _, _, _, h => lk_tF_congr (l := l) (lk_putT_congr h)
theorem lk_tF_filter {ops : List Oper} {V : Tab} : ∀ (l : List Nat) (t : Tms) (s : Nat), lk (tF ops V t l) s = lk (tF ops V t (l.filter (wr ops s))) s
  | [], _, _ => rfl
  | j :: l, t, s => by
    simp only [tF]
    by_cases h : wr ops s j = true
    · rw [List.filter_cons_of_pos h]; simp only [tF]; exact lk_tF_filter l _ s
    · have h' : wr ops s j = false := by simpa using h
      rw [List.filter_cons_of_neg h, ← lk_tF_filter l t s]
      exact lk_tF_congr (lk_putT_not h')

/-- What is told of an operation: what it may do to entries (0: nothing; 1: it makes new ones; 2: more), whether it looks at some of the entries only, its ancestors, and whether it is told with no entries at all. -/
structure Inf where
  k : Nat
  f : Bool
  an : List Nat
  z : Bool
instance : Inhabited Inf := ⟨⟨0, false, [], false⟩⟩
abbrev Infs := List Inf
def isA (A : Infs) (j i : Nat) : Bool := (A.getD i default).an.contains j
/-- The operation looks at no entry and makes none. -/
def blind : Op → Bool
  | .move _ | .assign _ | .extract _ _ | .binOp _ _ _ _ _ | .unOp _ _ _ | .pick _ _ _ => true
  | _ => false
/-- It looks at no entry, or is told without any. -/
def bz (o : Op) (q : Inf) : Bool := blind o || (q.z && !q.f)
def dstIn (d : Option Tmp) (l : List Tmp) : Bool :=
  match d with
  | some d => l.contains d
  | none => false

/-- What stands beside an operation that touches entries of some operations ahead of it. -/
def winOK (i : Nat) (q : Inf) (y ky : Nat) : Bool :=
  decide (ky ≤ 2) || (ky == 3 && q.k == 0 && q.f && q.z) || (decide (4 ≤ ky) && q.f && decide (ky - 3 ≤ y) && (i :: q.an).all fun j => decide (j + (ky - 3) < y) || decide (y < j)) || (decide (4 ≤ ky) && q.z && !q.f && q.k == 1 && (decide (y < i) || decide (i + (ky - 3) < y)))
/-- What the told facts have to meet. -/
def drawOK (ops : List Oper) (A : Infs) : Bool :=
  (List.range ops.length).all fun i =>
    match ops[i]? with
    | none => false
    | some o =>
      (A.getD i default).an.all (fun j => decide (j < i) && o.after.toList.any fun x => Region.binds .any x && (x.on == j || isA A j x.on)) &&
      o.after.toList.all (fun x => !Region.binds .any x || decide (x.on < i)) &&
      (!bz o.op (A.getD i default) || decide ((A.getD i default).k ≤ 1)) &&
      (List.range ops.length).all fun y => y == i || isA A y i || isA A i y ||
        (((A.getD y default).k != 2 || (bz o.op (A.getD i default) && (A.getD i default).k == 0)) && ((bz o.op (A.getD i default) && (A.getD i default).k == 0) || winOK i (A.getD i default) y (A.getD y default).k) && !dstIn (dstOf ops y) (o.looksAt ops.toArray) && (o.dst.isNone || dstOf ops y != o.dst) && ((A.getD y default).k == 0 || (A.getD i default).f || bz o.op (A.getD i default)))

def Down (A : Infs) (n : Nat) (L : Nat → Bool) : Prop := ∀ i, i < n → L i = true → ∀ j, isA A j i = true → L j = true

/-- All the entries are the operation's own. -/
def ownL (n : Nat) : Del → Prop
  | [] => True
  | (k, _) :: d => (n ≤ k ∧ k < n + 16) ∧ ownL n d
/-- The entries are the operation's own, or of some operations ahead of it. -/
def ownS (s n : Nat) : Del → Prop
  | [] => True
  | (k, _) :: d => (n ≤ k + 16 * s ∧ k < n + 16) ∧ ownS s n d
/-- All the entries are of names below 64. -/
def lowL : Del → Prop
  | [] => True
  | (k, _) :: d => k < 64 ∧ lowL d
theorem lowL_get : ∀ {d : Del} {m : Nat}, lowL d → d.any (·.1 == m) = true → m < 64
  | [], _, _, h => by simp at h
  | (k, x) :: d, m, h, hm => by
    simp only [List.any_cons, Bool.or_eq_true, beq_iff_eq] at hm
    rcases hm with rfl | hm
    · exact h.1
    · exact lowL_get h.2 hm
def ownB (k n : Nat) (d : Del) : Prop :=
  match k with
  | 0 => d = []
  | 1 => ownL n d
  | 2 => True
  | 3 => lowL d
  | s + 4 => ownS (s + 1) n d
theorem ownS_get {s n : Nat} : ∀ {d : Del} {m : Nat}, ownS s n d → d.any (·.1 == m) = true → n ≤ m + 16 * s ∧ m < n + 16
  | [], _, _, h => by simp at h
  | (k, x) :: d, m, h, hm => by
    simp only [List.any_cons, Bool.or_eq_true, beq_iff_eq] at hm
    rcases hm with rfl | hm
    · exact h.1
    · exact ownS_get h.2 hm
theorem ownL_get {n : Nat} : ∀ {d : Del} {m : Nat}, ownL n d → d.any (·.1 == m) = true → n ≤ m ∧ m < n + 16
  | [], _, _, h => by simp at h
  | (k, x) :: d, m, h, hm => by
    simp only [List.any_cons, Bool.or_eq_true, beq_iff_eq] at hm
    rcases hm with rfl | hm
    · exact h.1
    · exact ownL_get h.2 hm

/-- The entries that an operation may look at. -/
def flE (n0 : Nat) (an : List Nat) : Ents → Ents
  | [] => []
  | (k, x) :: e => if (decide (k < n0) || an.contains ((k - n0) / 16)) = true then (k, x) :: flE n0 an e else flE n0 an e
theorem lk_flE {n0 : Nat} {an : List Nat} : ∀ {e : Ents} {n : Nat} {x : Ent}, lk (flE n0 an e) n = some x → lk e n = some x ∧ (n < n0 ∨ an.contains ((n - n0) / 16) = true)
  | [], _, _, h => by cases h
  | (k, y) :: e, n, x, h => by
    simp only [flE] at h
    split at h
    · next hq =>
      simp only [lk] at h ⊢
      split at h
      · next hk => subst hk; exact ⟨by simpa using h, by simpa using hq⟩
      · next hk => rw [if_neg hk]; exact lk_flE h
    · next hq =>
      obtain ⟨h1, h2⟩ := lk_flE h
      refine ⟨?_, h2⟩
      simp only [lk]
      split
      · next hk => subst hk; exact absurd (by simpa using h2) hq
      · exact h1
/-- The entries of names from 64 on. -/
def hiE : Ents → Ents
  | [] => []
  | (k, x) :: e => if decide (64 ≤ k) = true then (k, x) :: hiE e else hiE e
theorem lk_hiE : ∀ {e : Ents} {n : Nat} {x : Ent}, lk (hiE e) n = some x → lk e n = some x ∧ 64 ≤ n
  | [], _, _, h => by cases h
  | (k, y) :: e, n, x, h => by
    simp only [hiE] at h
    split at h
    · next hq =>
      simp only [lk] at h ⊢
      split at h
      · next hk => subst hk; exact ⟨by simpa using h, by simpa using hq⟩
      · next hk => rw [if_neg hk]; exact lk_hiE h
    · next hq =>
      obtain ⟨h1, h2⟩ := lk_hiE h
      refine ⟨?_, h2⟩
      simp only [lk]
      split
      · next hk => subst hk; exact absurd (by simpa using h2) hq
      · exact h1
def flI (q : Inf) (n0 : Nat) (e : Ents) : Ents :=
  match q.z with
  | true =>
    match q.f with
    | true => hiE (flE n0 q.an e)
    | false => []
  | false =>
    match q.f with
    | true => flE n0 q.an e
    | false => e

def idx (n : Nat) (L : Nat → Bool) : List Nat := (List.range n).filter L
theorem filter_idx {n : Nat} {L : Nat → Bool} {p : Nat → Bool} : (idx n L).filter p = (List.range n).filter fun j => L j && p j := by
  unfold idx; rw [List.filter_filter]; congr 1; funext j; rw [Bool.and_comm]
theorem range_filter {n i : Nat} (h : i ≤ n) (p : Nat → Bool) : (List.range i).filter p = (List.range n).filter fun j => decide (j < i) && p j := by
  induction n with
  | zero => have : i = 0 := by omega
            subst this; rfl
  | succ n ih =>
    by_cases hi : i = n + 1
    · subst hi; apply List.filter_congr; intro j hj; have := List.mem_range.1 hj; simp [this]
    · rw [List.range_succ, List.filter_append, ← ih (by omega)]
      simp; intro h; omega

section
variable {ops : List Oper} {A : Infs}
structure OKi (ops : List Oper) (A : Infs) (i : Nat) (o : Oper) : Prop where
  lt : ∀ j, isA A j i = true → j < i ∧ ∃ x ∈ o.after, Region.binds .any x = true ∧ (x.on = j ∨ isA A j x.on = true)
  pre : ∀ x ∈ o.after, Region.binds .any x = true → x.on < i
  bl : bz o.op (A.getD i default) = true → (A.getD i default).k ≤ 1
  pair : ∀ y, y < ops.length → y ≠ i → isA A y i = false → isA A i y = false →
    ((A.getD y default).k ≠ 2 ∨ (bz o.op (A.getD i default) = true ∧ (A.getD i default).k = 0)) ∧ (∀ s, dstOf ops y = some s → s ∉ o.looksAt ops.toArray) ∧ (∀ s, o.dst = some s → dstOf ops y ≠ some s) ∧ ((A.getD y default).k = 0 ∨ (A.getD i default).f = true ∨ bz o.op (A.getD i default) = true) ∧
      ((bz o.op (A.getD i default) = true ∧ (A.getD i default).k = 0) ∨ (A.getD y default).k ≤ 2 ∨ ((A.getD y default).k = 3 ∧ (A.getD i default).k = 0 ∧ (A.getD i default).f = true ∧ (A.getD i default).z = true) ∨
        (4 ≤ (A.getD y default).k ∧ (A.getD i default).f = true ∧ (A.getD y default).k - 3 ≤ y ∧ ∀ j, (j = i ∨ isA A j i = true) → j + ((A.getD y default).k - 3) < y ∨ y < j) ∨
        (4 ≤ (A.getD y default).k ∧ (A.getD i default).z = true ∧ (A.getD i default).f = false ∧ (A.getD i default).k = 1 ∧ (y < i ∨ i + ((A.getD y default).k - 3) < y)))
theorem drawOK_get (h : drawOK ops A = true) {i : Nat} {o : Oper} (ho : ops[i]? = some o) : OKi ops A i o := by
  have hi := (List.getElem?_eq_some_iff.1 ho).1
  have := List.all_eq_true.1 h i (List.mem_range.2 hi)
  rw [ho] at this
  simp only [Bool.and_eq_true, Bool.or_eq_true, List.all_eq_true, List.any_eq_true, Array.mem_toList_iff, decide_eq_true_eq, beq_iff_eq, Bool.not_eq_true', List.mem_range, bne_iff_ne] at this
  obtain ⟨⟨⟨h1, h2⟩, h3⟩, h4⟩ := this
  refine ⟨fun j hj => ?_, fun x hx hb => ?_, fun hb => ?_, fun y hy hne ha hb => ?_⟩
  · obtain ⟨k1, x, k2, k3, k4⟩ := h1 j (by simpa [isA] using hj)
    exact ⟨k1, x, k2, k3, k4⟩
  · rcases h2 x hx with h | h
    · rw [hb] at h; cases h
    · exact h
  · rcases h3 with h | h
    · rw [hb] at h; cases h
    · exact h
  · rcases h4 y hy with ((h | h) | h) | ⟨⟨⟨⟨k1, k5⟩, k2⟩, k3⟩, k4⟩
    · exact absurd h hne
    · rw [ha] at h; cases h
    · rw [hb] at h; cases h
    · refine ⟨k1, fun s hs hm => ?_, fun s hs hd => ?_, ?_⟩
      · rw [hs] at k2; simp only [dstIn, List.contains_eq_mem, decide_eq_false_iff_not] at k2; exact k2 hm
      · rw [hs] at k3; simp [hd] at k3
      · refine ⟨?_, ?_⟩
        · rcases k4 with (h | h) | h
          · exact .inl h
          · exact .inr (.inl h)
          · exact .inr (.inr h)
        · rcases k5 with h | h
          · exact .inl h
          · simp only [winOK, Bool.or_eq_true, Bool.and_eq_true, decide_eq_true_eq, List.all_eq_true, beq_iff_eq, Bool.not_eq_true'] at h
            rcases h with ((h | ⟨⟨⟨h1, h2⟩, h3⟩, h4⟩) | ⟨⟨⟨h0, h1⟩, h2⟩, h3⟩) | ⟨⟨⟨⟨h0, h1⟩, h2⟩, h3⟩, h4⟩
            · exact .inr (.inl h)
            · exact .inr (.inr (.inl ⟨h1, h2, h3, h4⟩))
            · refine .inr (.inr (.inr (.inl ⟨h0, h1, h2, fun j hj => h3 j ?_⟩)))
              rcases hj with rfl | hj
              · simp
              · simp only [isA, List.contains_eq_mem, decide_eq_true_eq] at hj; exact List.mem_cons_of_mem _ hj
            · exact .inr (.inr (.inr (.inr ⟨h0, h1, h2, h3, h4⟩)))

variable {V : Tab} {n0 : Nat}
theorem tch_cases (hown : ∀ i, i < ops.length → ownB (A.getD i default).k (n0 + 16 * i) (V i).2) {i n : Nat} (hi : i < ops.length) (ht : tch V n i = true) :
    (A.getD i default).k ≠ 0 ∧ ((A.getD i default).k = 2 ∨ ((A.getD i default).k = 1 ∧ n0 + 16 * i ≤ n ∧ n < n0 + 16 * i + 16) ∨ ((A.getD i default).k = 3 ∧ n < 64) ∨ (4 ≤ (A.getD i default).k ∧ n0 + 16 * i ≤ n + 16 * ((A.getD i default).k - 3) ∧ n < n0 + 16 * i + 16)) := by
  have := hown i hi
  generalize (A.getD i default).k = k at *
  match k, this with
  | 0, h => simp only [ownB] at h; simp [tch, h] at ht
  | 1, h => exact ⟨by omega, .inr (.inl ⟨rfl, ownL_get h ht⟩)⟩
  | 2, _ => exact ⟨by omega, .inl rfl⟩
  | 3, h => exact ⟨by omega, .inr (.inr (.inl ⟨rfl, lowL_get h ht⟩))⟩
  | s + 4, h =>
    have := ownS_get h ht
    exact ⟨by omega, .inr (.inr (.inr ⟨by omega, by rw [show s + 4 - 3 = s + 1 by omega]; exact this.1, this.2⟩))⟩

theorem lt_of_isA (hOK : drawOK ops A = true) {i j : Nat} (hi : i < ops.length) (h : isA A j i = true) : j < i :=
  ((drawOK_get hOK (List.getElem?_eq_getElem hi)).lt j h).1

/-- What the operation sees of the entries is there in every order. -/
theorem loc_e (hOK : drawOK ops A = true) (hown : ∀ i, i < ops.length → ownB (A.getD i default).k (n0 + 16 * i) (V i).2) {L : Nat → Bool} {i : Nat} {o : Oper} (ho : ops[i]? = some o) (hb : blind o.op = false)
    (hd : Down A ops.length L) (hLi : L i = false) (hanc : ∀ j, isA A j i = true → L j = true) (e : Ents) :
    Le (flI (A.getD i default) n0 (eF V e (List.range i))) (eF V e (idx ops.length L)) := by
  have hi := (List.getElem?_eq_some_iff.1 ho).1
  have K := drawOK_get hOK ho
  intro n x hx
  have hz : ((A.getD i default).z && !(A.getD i default).f) = false := by
    cases hz : (A.getD i default).z with
    | false => rfl
    | true =>
      cases hf : (A.getD i default).f with
      | true => rfl
      | false => unfold flI at hx; rw [hz, hf] at hx; cases hx
  have hb : bz o.op (A.getD i default) = false := by rw [bz, hb, hz]; rfl
  have hx' : lk (eF V e (List.range i)) n = some x ∧ ((A.getD i default).f = true → n < n0 ∨ (A.getD i default).an.contains ((n - n0) / 16) = true) ∧ ((A.getD i default).z = true → 64 ≤ n) := by
    unfold flI at hx
    cases hzz : (A.getD i default).z with
    | true =>
      cases hff : (A.getD i default).f with
      | true =>
        rw [hzz, hff] at hx
        dsimp only at hx
        obtain ⟨g1, g2⟩ := lk_hiE hx
        exact ⟨(lk_flE g1).1, fun _ => (lk_flE g1).2, fun _ => g2⟩
      | false => rw [hzz, hff] at hz; cases hz
    | false =>
      rw [hzz] at hx
      dsimp only at hx
      split at hx
      · next hq => exact ⟨(lk_flE hx).1, fun _ => (lk_flE hx).2, fun h => by cases h⟩
      · next hq => exact ⟨hx, (fun h => by rw [hq] at h; cases h), fun h => by cases h⟩
  rw [← hx'.1, lk_eF_filter (List.range i), lk_eF_filter (idx ops.length L), filter_idx, range_filter (Nat.le_of_lt hi)]
  congr 2
  apply List.filter_congr
  intro y hy
  have hy : y < ops.length := List.mem_range.1 hy
  cases ht : tch V n y with
  | false => simp
  | true =>
    rw [Bool.and_true, Bool.and_true]
    by_cases hyi : y = i
    · subst hyi; rw [hLi]; simp
    · cases h1 : isA A y i with
      | true => rw [hanc y h1]; simp [lt_of_isA hOK hi h1]
      | false =>
        cases h2 : isA A i y with
        | true =>
          have := lt_of_isA hOK hy h2
          cases hLy : L y with
          | true => have := hd y hy hLy i h2; rw [hLi] at this; cases this
          | false => simp; omega
        | false =>
          -- not in order: the operation makes entries of its own only, and this is one of them
          exfalso
          obtain ⟨p1, _, _, p4, p5⟩ := K.pair y hy hyi h1 h2
          obtain ⟨q0, q⟩ := tch_cases hown hy ht
          rcases p1 with p1 | p1
          · rcases q with q | q | q | q
            · omega
            · rcases p4 with p4 | p4 | p4
              · exact q0 p4
              · rcases hx'.2.1 p4 with g | g
                · omega
                · have : (n - n0) / 16 = y := by omega
                  rw [this] at g; unfold isA at h1; rw [g] at h1; cases h1
              · rw [hb] at p4; cases p4
            · rcases p5 with ⟨p5, _⟩ | p5 | ⟨_, _, _, p6⟩ | ⟨p5, _⟩ | ⟨p5, _⟩
              · rw [hb] at p5; cases p5
              · omega
              · have := hx'.2.2 p6; omega
              · omega
              · omega
            · rcases p5 with ⟨p5, _⟩ | p5 | ⟨p5, _⟩ | ⟨_, p5, p6, p7⟩ | ⟨_, p5, p6, _⟩
              · rw [hb] at p5; cases p5
              · omega
              · omega
              · rcases hx'.2.1 p5 with g | g
                · omega
                · have := p7 ((n - n0) / 16) (.inr g)
                  omega
              · rw [p5, p6] at hz; cases hz
          · rw [hb] at p1; cases p1.1

/-- What the operation looks at of the slots is the same in every order. -/
theorem loc_t (hOK : drawOK ops A = true) {L : Nat → Bool} {i : Nat} {o : Oper} (ho : ops[i]? = some o)
    (hd : Down A ops.length L) (hLi : L i = false) (hanc : ∀ j, isA A j i = true → L j = true) (t : Tms) {s : Tmp} (hs : s ∈ o.looksAt ops.toArray) :
    lk (tF ops V t (List.range i)) s = lk (tF ops V t (idx ops.length L)) s := by
  have hi := (List.getElem?_eq_some_iff.1 ho).1
  have K := drawOK_get hOK ho
  rw [lk_tF_filter (List.range i), lk_tF_filter (idx ops.length L), filter_idx, range_filter (Nat.le_of_lt hi)]
  congr 2
  apply List.filter_congr
  intro y hy
  have hy : y < ops.length := List.mem_range.1 hy
  cases ht : wr ops s y with
  | false => simp
  | true =>
    have ht' : dstOf ops y = some s := by simpa [wr] using ht
    rw [Bool.and_true, Bool.and_true]
    by_cases hyi : y = i
    · subst hyi; rw [hLi]; simp
    · cases h1 : isA A y i with
      | true => rw [hanc y h1]; simp [lt_of_isA hOK hi h1]
      | false =>
        cases h2 : isA A i y with
        | true =>
          have := lt_of_isA hOK hy h2
          cases hLy : L y with
          | true => have := hd y hy hLy i h2; rw [hLi] at this; cases this
          | false => simp; omega
        | false => exact absurd hs ((K.pair y hy hyi h1 h2).2.1 s ht')

def ins (L : Nat → Bool) (i : Nat) : Nat → Bool := fun j => j == i || L j
theorem ins_filter {n i : Nat} {L : Nat → Bool} (hi : i < n) (hLi : L i = false) {p : Nat → Bool} (hp : p i = true) (hlast : ∀ y, y < n → i < y → L y = true → p y = false) :
    (List.range n).filter (fun j => ins L i j && p j) = (List.range n).filter (fun j => L j && p j) ++ [i] := by
  induction n with
  | zero => omega
  | succ n ih =>
    rw [List.range_succ, List.filter_append, List.filter_append]
    by_cases hin : i = n
    · subst hin
      have h1 : (List.range i).filter (fun j => ins L i j && p j) = (List.range i).filter (fun j => L j && p j) := by
        apply List.filter_congr; intro j hj
        have : (j == i) = false := beq_eq_false_iff_ne.2 (by have := List.mem_range.1 hj; omega)
        simp only [ins, this, Bool.false_or]
      rw [h1]; simp [ins, hp, hLi]
    · rw [ih (by omega) (fun y hy => hlast y (by omega))]
      have : (ins L i n && p n) = false := by
        simp only [ins]
        cases hL : L n with
        | true => rw [hlast n (by omega) (by omega) hL]; simp
        | false => simp; intro h; omega
      have h2 : (L n && p n) = false := by
        cases hL : L n with
        | true => rw [hlast n (by omega) (by omega) hL]; simp
        | false => simp
      simp [this, h2]
theorem ins_filter_not {n i : Nat} {L : Nat → Bool} {p : Nat → Bool} (hp : p i = false) :
    (List.range n).filter (fun j => ins L i j && p j) = (List.range n).filter (fun j => L j && p j) := by
  apply List.filter_congr
  intro j _
  by_cases h : j = i
  · subst h; simp [hp]
  · have : (j == i) = false := beq_eq_false_iff_ne.2 h
    simp only [ins, this, Bool.false_or]

theorem ins_t (hOK : drawOK ops A = true) {L : Nat → Bool} {i : Nat} {o : Oper} (ho : ops[i]? = some o) (hd : Down A ops.length L) (hLi : L i = false) (t : Tms) (s : Nat) :
    lk (tF ops V t (idx ops.length (ins L i))) s = lk (putT (tF ops V t (idx ops.length L)) o.dst (V i).1) s := by
  have hi := (List.getElem?_eq_some_iff.1 ho).1
  have K := drawOK_get hOK ho
  have hdst : dstOf ops i = o.dst := by simp [dstOf, ho]
  rw [lk_tF_filter, filter_idx]
  cases hw : wr ops s i with
  | false =>
    rw [ins_filter_not hw, ← filter_idx, ← lk_tF_filter, lk_putT_not]
    simpa [wr, hdst] using hw
  | true =>
    have hw' : o.dst = some s := by simpa [wr, hdst] using hw
    rw [ins_filter hi hLi hw, tF_append, ← filter_idx]
    · simp only [tF, hdst, hw', lk_putT, if_true]
    · intro y hy hlt hLy
      cases ht : wr ops s y with
      | false => rfl
      | true =>
        have ht' : dstOf ops y = some s := by simpa [wr] using ht
        cases h1 : isA A y i with
        | true => have := lt_of_isA hOK hi h1; omega
        | false =>
          cases h2 : isA A i y with
          | true => have := hd y hy hLy i h2; rw [hLi] at this; cases this
          | false => exact absurd ht' ((K.pair y hy (by omega) h1 h2).2.2.1 s hw')
theorem ins_e (hOK : drawOK ops A = true) (hown : ∀ i, i < ops.length → ownB (A.getD i default).k (n0 + 16 * i) (V i).2) {L : Nat → Bool} {i : Nat} {o : Oper} (ho : ops[i]? = some o) (hd : Down A ops.length L) (hLi : L i = false) (e : Ents) (n : Nat) :
    lk (eF V e (idx ops.length (ins L i))) n = lk (ap (V i).2 (eF V e (idx ops.length L))) n := by
  have hi := (List.getElem?_eq_some_iff.1 ho).1
  have K := drawOK_get hOK ho
  rw [lk_eF_filter, filter_idx]
  cases hw : tch V n i with
  | false =>
    rw [ins_filter_not hw, ← filter_idx, ← lk_eF_filter, lk_ap_not]
    exact hw
  | true =>
    rw [ins_filter hi hLi hw, eF_append, ← filter_idx]
    · exact lk_ap_congr (lk_eF_filter _ _ _).symm
    · intro y hy hlt hLy
      cases ht : tch V n y with
      | false => rfl
      | true =>
        obtain ⟨q0, q⟩ := tch_cases hown hy ht
        obtain ⟨r0, r⟩ := tch_cases hown hi hw
        have Ky := drawOK_get hOK (List.getElem?_eq_getElem hy)
        cases h1 : isA A y i with
        | true => have := lt_of_isA hOK hi h1; omega
        | false =>
          cases h2 : isA A i y with
          | true => have := hd y hy hLy i h2; rw [hLi] at this; cases this
          | false =>
            have p1 := (K.pair y hy (by omega) h1 h2).1
            have p2 := (Ky.pair i hi (by omega) h2 h1).1
            have p5 := (K.pair y hy (by omega) h1 h2).2.2.2.2
            rcases p1 with p1 | ⟨_, p1⟩
            rotate_left
            · exact absurd p1 r0
            rcases p2 with p2 | ⟨_, p2⟩
            rotate_left
            · exact absurd p2 q0
            have p8 := (Ky.pair i hi (by omega) h2 h1).2.2.2.2
            rcases p5 with ⟨_, p5⟩ | p5 | ⟨_, p5, _⟩ | ⟨p4, p5, p6, p7⟩ | ⟨p4, _, _, p5, p6⟩
            · omega
            · rcases p8 with ⟨_, p8⟩ | p8 | ⟨_, p8, _⟩ | ⟨p8, _⟩ | ⟨p8, _⟩ <;> omega
            · omega
            · have := p7 i (.inl rfl)
              rcases p8 with ⟨_, p8⟩ | p8 | ⟨_, p8, _⟩ | ⟨p8, _⟩ | ⟨p8, _⟩ <;> omega
            · omega
end

end Sx

/- Regions that draw their order: how they are walked. -/
set_option linter.unusedVariables false
set_option linter.unusedSimpArgs false
namespace Sx
open Go

section
variable {P : Program} {tt : Nat → Option TI} {G : Nat → Option AV} {t t' : Tms} {e e' : Ents} {nb : Nat}

theorem evL_congr : ∀ {l : List Operand}, (∀ x ∈ l, ev G t x = ev G t' x) → evL G t l = evL G t' l
  | [], _ => rfl
  | x :: l, h => by simp only [evL]; rw [h x (by simp), evL_congr (l := l) (fun y hy => h y (by simp [hy]))]
theorem evP_congr : ∀ {l : List (Nat × Operand)}, (∀ i x, (i, x) ∈ l → ev G t x = ev G t' x) → evP G t l = evP G t' l
  | [], _ => rfl
  | (i, x) :: l, h => by simp only [evP]; rw [h i x (by simp), evP_congr (l := l) (fun j y hy => h j y (by simp [hy]))]
theorem bd_congr {x : Option Operand} (h : ∀ y, x = some y → ev G t y = ev G t' y) : bd G t x = bd G t' x := by
  cases x with
  | none => rfl
  | some y => simp only [bd]; rw [h y rfl]

theorem exOp_congr {o : Op} {K : AV → Del → Prop} (h : ∀ x ∈ o.operands, ev G t x = ev G t' x) : exOp P tt G t e nb o K = exOp P tt G t' e nb o K := by
  cases o
  case call c =>
    obtain ⟨cal, xs, ts⟩ := c
    cases cal with
    | value x =>
      simp only [exOp, exCall]
      rw [h x (by simp [Op.operands, Call.operands]), evL_congr (fun y hy => h y (by simp [Op.operands, Call.operands]; exact .inr (by simpa using hy)))]
    | invoke x name =>
      simp only [exOp, exCall]
      rw [h x (by simp [Op.operands, Call.operands]), evL_congr (fun y hy => h y (by simp [Op.operands, Call.operands]; exact .inr (by simpa using hy)))]
    | builtin b =>
      simp only [exOp, exCall]
      rw [evL_congr (fun y hy => h y (by simp [Op.operands, Call.operands]; simpa using hy))]
  case slice T x lo hi mx =>
    cases mx with
    | some mx =>
      simp only [exOp, stepQ]
      rw [h x (by simp [Op.operands]), bd_congr (x := lo) (fun y hy => h y (by subst hy; simp [Op.operands])), bd_congr (x := hi) (fun y hy => h y (by subst hy; simp [Op.operands])), bd_congr (x := some mx) (fun y hy => h y (by cases hy; simp [Op.operands]))]
    | none =>
      simp only [exOp, stepQ]
      rw [h x (by simp [Op.operands]), bd_congr (x := lo) (fun y hy => h y (by subst hy; simp [Op.operands])), bd_congr (x := hi) (fun y hy => h y (by subst hy; simp [Op.operands]))]
  case makeFunc f xs ys =>
    simp only [exOp, stepQ]
    rw [evL_congr (l := xs.toList) (fun y hy => h y (by simp [Op.operands]; exact .inl (by simpa using hy))), evL_congr (l := ys.toList) (fun y hy => h y (by simp [Op.operands]; exact .inr (by simpa using hy)))]
  case makeMap T r => cases r <;> rfl
  case lookup T x y ok =>
    cases ok with
    | false => simp [Op.operands] at h; simp only [exOp, stepQ, h]
    | true => simp [Op.operands] at h; simp only [exOp, stepQ, h]
  case build T ps =>
    simp [Op.operands] at h
    simp only [exOp, stepQ]
    rw [evP_congr (fun i x hx => h x i (by simpa using hx))]
  case buildSlice T n ps =>
    simp [Op.operands] at h
    simp only [exOp, stepQ]
    rw [evP_congr (fun i x hx => h x i (by simpa using hx))]
  all_goals
    simp [Op.operands] at h
    simp only [exOp, stepQ, h]

theorem exOp_blind {o : Op} {K : AV → Del → Prop} (h : blind o = true) : exOp P tt G t e nb o K = exOp P tt G t e' nb o K := by
  cases o <;> simp only [blind, Bool.false_eq_true] at h <;> rfl

theorem onQ_pin {α : Type} {x : Q α} {K : α → Prop} (h : onQ x K) : ∃ a, K a ∧ onQ x (· = a) := by
  match x, h with
  | some (φ, a), h => exact ⟨a, h.2, h.1, rfl⟩
theorem onQ_imp {α : Type} {x : Q α} {K K' : α → Prop} (h : onQ x K) (hk : ∀ a, K a → K' a) : onQ x K' := by
  match x, h with
  | some (φ, a), h => exact ⟨h.1, hk _ h.2⟩
theorem exOp_pin {o : Op} {K : AV → Del → Prop} (h : exOp P tt G t e nb o K) : ∃ v d, K v d ∧ exOp P tt G t e nb o (fun v' d' => v' = v ∧ d' = d) := by
  by_cases hc : ∃ c, o = .call c
  · obtain ⟨c, rfl⟩ := hc
    obtain ⟨cal, xs, ts⟩ := c
    cases cal with
    | value x =>
      simp only [exOp, exCall] at h ⊢
      split at h
      · next f bnd as hx has =>
        cases h with
        | fn h h' args args' F r hv hs hF hcal ht hle hn hi hf hk => exact ⟨r, _, hk, .fn h h' args args' F r hv hs hF hcal ht hle hn hi hf ⟨rfl, rfl⟩⟩
        | same h args args' F r hv hs hF hcal ht hle hi hf hk => exact ⟨r, _, hk, .same h args args' F r hv hs hF hcal ht hle hi hf ⟨rfl, rfl⟩⟩
        | ext r hc hp hF hk => exact ⟨r, _, hk, .ext r hc hp hF ⟨rfl, rfl⟩⟩
      · next f cap as hx has _ =>
        cases h with
        | fn h h' args args' F r hv hs hF hcal ht hle hn hi hf hk => exact ⟨r, _, hk, .fn h h' args args' F r hv hs hF hcal ht hle hn hi hf ⟨rfl, rfl⟩⟩
        | same h args args' F r hv hs hF hcal ht hle hi hf hk => exact ⟨r, _, hk, .same h args args' F r hv hs hF hcal ht hle hi hf ⟨rfl, rfl⟩⟩
        | ext r hc hp hF hk => exact ⟨r, _, hk, .ext r hc hp hF ⟨rfl, rfl⟩⟩
      · exact h.elim
    | invoke x name =>
      simp only [exOp, exCall] at h ⊢
      split at h
      · next T v as hx has =>
        obtain ⟨f, rcv, hm, h⟩ := h
        cases h with
        | fn h h' args args' F r hv hs hF hcal ht hle hn hi hf hk => exact ⟨r, _, hk, ⟨f, rcv, hm, .fn h h' args args' F r hv hs hF hcal ht hle hn hi hf ⟨rfl, rfl⟩⟩⟩
        | same h args args' F r hv hs hF hcal ht hle hi hf hk => exact ⟨r, _, hk, ⟨f, rcv, hm, .same h args args' F r hv hs hF hcal ht hle hi hf ⟨rfl, rfl⟩⟩⟩
        | ext r hc hp hF hk => exact ⟨r, _, hk, ⟨f, rcv, hm, .ext r hc hp hF ⟨rfl, rfl⟩⟩⟩
      · exact h.elim
    | builtin b =>
      simp only [exOp, exCall] at h ⊢
      split at h
      · next as has =>
        rcases h with h | h
        · obtain ⟨⟨v, d⟩, h1, h2⟩ := onQ_pin h
          exact ⟨v, d, h1, .inl (onQ_imp h2 (fun r hr => by cases hr; exact ⟨rfl, rfl⟩))⟩
        · obtain ⟨v, h1, h2⟩ := onQ_pin h
          exact ⟨v, [], h1, .inr (onQ_imp h2 (fun r hr => ⟨hr, rfl⟩))⟩
      · exact h.elim
  · have q : ∀ K, exOp P tt G t e nb o K = onQ (stepQ tt G t e nb o) fun r => K r.1 r.2 := by
      intro K
      cases o <;> first | rfl | exact absurd ⟨_, rfl⟩ hc
    rw [q] at h
    obtain ⟨⟨v, d⟩, h1, h2⟩ := onQ_pin h
    refine ⟨v, d, h1, ?_⟩
    rw [q]
    obtain ⟨a, h3, h4⟩ := onQ_spec h2
    subst h4
    match hx : stepQ tt G t e nb o, h2 with
    | some (φ, a), h2 => exact ⟨h2.1, by cases h2.2; exact ⟨rfl, rfl⟩⟩
end

/-- The value of a guard. -/
def gdV (all : List Oper) (t : Tms) (j : Nat) : Option AV := ((all[j]?).bind (·.dst)).bind (lk t)

/-- A region that draws, in the order of the text. -/
def exD (P : Program) (tt : Nat → Option TI) (G : Nat → Option AV) (all : List Oper) (n0 m : Nat) : List Oper → Infs → Tms → Ents → Nat → (St → Prop) → Prop
  | [], _, t, e, n, K => K ⟨t, e, n, m⟩
  | o :: rest, q :: A, t, e, n, K =>
    inB o.dst m ∧
    match o.guard with
    | none => exOp P tt G t (flI q n0 e) n o.op fun v d => ownB q.k n d ∧ exD P tt G all n0 m rest A (putT t o.dst v) (ap d e) (n + 16) K
    | some (j, want) =>
      match gdV all t j with
      | some (.bool b) => (b = want → exOp P tt G t (flI q n0 e) n o.op fun v d => ownB q.k n d ∧ exD P tt G all n0 m rest A (putT t o.dst v) (ap d e) (n + 16) K) ∧
          (b ≠ want → exD P tt G all n0 m rest A (putT t o.dst (.tup [])) e (n + 16) K)
      | _ => False
  | _ :: _, [], _, _, _, _ => False

section
variable {P : Program} {tt : Nat → Option TI} {G : Nat → Option AV} {ops : List Oper} {A : Infs} {n0 m : Nat}

/-- What the table tells of an operation. -/
def OpG (P : Program) (tt : Nat → Option TI) (G : Nat → Option AV) (ops : List Oper) (A : Infs) (n0 m : Nat) (t : Tms) (e : Ents) (V : Tab) (k : Nat) : Prop :=
  ∃ o, ops[k]? = some o ∧ inB o.dst m ∧ ownB (A.getD k default).k (n0 + 16 * k) (V k).2 ∧
    (((o.guard = none ∨ ∃ j want, o.guard = some (j, want) ∧ gdV ops (tF ops V t (List.range k)) j = some (.bool want)) ∧
        exOp P tt G (tF ops V t (List.range k)) (flI (A.getD k default) n0 (eF V e (List.range k))) (n0 + 16 * k) o.op (fun v d => v = (V k).1 ∧ d = (V k).2)) ∨
      (∃ j want b, o.guard = some (j, want) ∧ gdV ops (tF ops V t (List.range k)) j = some (.bool b) ∧ b ≠ want ∧ V k = (.tup [], [])))

theorem OpG.congr {t : Tms} {e : Ents} {V V' : Tab} {k : Nat} (h : ∀ j, j < k + 1 → V j = V' j) (hg : OpG P tt G ops A n0 m t e V k) : OpG P tt G ops A n0 m t e V' k := by
  have h1 : tF ops V' t (List.range k) = tF ops V t (List.range k) := tF_congr fun j hj => (h j (by have := List.mem_range.1 hj; omega)).symm
  have h2 : eF V' e (List.range k) = eF V e (List.range k) := eF_congr fun j hj => (h j (by have := List.mem_range.1 hj; omega)).symm
  unfold OpG
  rw [h1, h2, ← h k (by omega)]
  exact hg

theorem exD_tab {t : Tms} {e : Ents} {K : St → Prop} : ∀ (rest : List Oper) (i : Nat) (V : Tab), ops.drop i = rest → i ≤ ops.length →
    exD P tt G ops n0 m rest (A.drop i) (tF ops V t (List.range i)) (eF V e (List.range i)) (n0 + 16 * i) K →
    ∃ V' : Tab, (∀ j, j < i → V' j = V j) ∧ K ⟨tF ops V' t (List.range ops.length), eF V' e (List.range ops.length), n0 + 16 * ops.length, m⟩ ∧ ∀ k, i ≤ k → k < ops.length → OpG P tt G ops A n0 m t e V' k
  | [], i, V, hr, hi, h => by
    have : i = ops.length := by have := List.drop_eq_nil_iff.1 hr; omega
    subst this
    refine ⟨V, fun _ _ => rfl, ?_, fun k h1 h2 => by omega⟩
    simpa [exD] using h
  | o :: rest, i, V, hr, hi, h => by
    have hlt : i < ops.length := by
      rcases Nat.lt_or_ge i ops.length with h | h
      · exact h
      · rw [List.drop_of_length_le h] at hr; cases hr
    have ho : ops[i]? = some o := by
      have := congrArg (·[0]?) hr
      simpa using this
    have hrest : ops.drop (i + 1) = rest := by
      have := congrArg (List.drop 1) hr
      simpa [Nat.add_comm] using this
    cases hA : A.drop i with
    | nil => rw [hA] at h; simp [exD] at h
    | cons q A' =>
      have hq : A.getD i default = q := by
        have := congrArg (·[0]?) hA
        simp at this
        simp [this]
      have hA' : A.drop (i + 1) = A' := by
        have := congrArg (List.drop 1) hA
        simpa [Nat.add_comm] using this
      rw [hA] at h
      simp only [exD] at h
      obtain ⟨hm, h⟩ := h
      have go : ∀ v d, ownB q.k (n0 + 16 * i) d → exD P tt G ops n0 m rest A' (putT (tF ops V t (List.range i)) o.dst v) (ap d (eF V e (List.range i))) (n0 + 16 * i + 16) K →
          (∀ V' : Tab, (∀ j, j < i → V' j = V j) → V' i = (v, d) → OpG P tt G ops A n0 m t e V' i) →
          ∃ V' : Tab, (∀ j, j < i → V' j = V j) ∧ K ⟨tF ops V' t (List.range ops.length), eF V' e (List.range ops.length), n0 + 16 * ops.length, m⟩ ∧ ∀ k, i ≤ k → k < ops.length → OpG P tt G ops A n0 m t e V' k := by
        intro v d hown hk hop
        let V1 : Tab := fun j => if j = i then (v, d) else V j
        have hV1 : ∀ j, j < i → V1 j = V j := fun j hj => by simp only [V1]; rw [if_neg (by omega)]
        have e1 : tF ops V1 t (List.range (i + 1)) = putT (tF ops V t (List.range i)) o.dst v := by
          rw [List.range_succ, tF_append, tF_congr (V' := V) (fun j hj => hV1 j (List.mem_range.1 hj))]
          simp [tF, V1, dstOf, ho]
        have e2 : eF V1 e (List.range (i + 1)) = ap d (eF V e (List.range i)) := by
          rw [List.range_succ, eF_append, eF_congr (V' := V) (fun j hj => hV1 j (List.mem_range.1 hj))]
          simp [eF, V1]
        obtain ⟨V', k1, k2, k3⟩ := exD_tab rest (i + 1) V1 hrest (by omega) (by rw [hA', e1, e2]; exact hk)
        refine ⟨V', fun j hj => (k1 j (by omega)).trans (hV1 j hj), k2, fun k h1 h2 => ?_⟩
        by_cases hki : k = i
        · subst hki
          exact hop V' (fun j hj => (k1 j (by omega)).trans (hV1 j hj)) ((k1 k (by omega)).trans (by simp [V1]))
        · exact k3 k (by omega) h2
      have same : ∀ V' : Tab, (∀ j, j < i → V' j = V j) → tF ops V' t (List.range i) = tF ops V t (List.range i) ∧ eF V' e (List.range i) = eF V e (List.range i) :=
        fun V' hV => ⟨tF_congr fun j hj => hV j (List.mem_range.1 hj), eF_congr fun j hj => hV j (List.mem_range.1 hj)⟩
      have run : (o.guard = none ∨ ∃ j want, o.guard = some (j, want) ∧ gdV ops (tF ops V t (List.range i)) j = some (.bool want)) →
          (exOp P tt G (tF ops V t (List.range i)) (flI q n0 (eF V e (List.range i))) (n0 + 16 * i) o.op fun v d => ownB q.k (n0 + 16 * i) d ∧ exD P tt G ops n0 m rest A' (putT (tF ops V t (List.range i)) o.dst v) (ap d (eF V e (List.range i))) (n0 + 16 * i + 16) K) →
          ∃ V' : Tab, (∀ j, j < i → V' j = V j) ∧ K ⟨tF ops V' t (List.range ops.length), eF V' e (List.range ops.length), n0 + 16 * ops.length, m⟩ ∧ ∀ k, i ≤ k → k < ops.length → OpG P tt G ops A n0 m t e V' k := by
        intro hgd hop
        obtain ⟨v, d, ⟨k1, k2⟩, k3⟩ := exOp_pin hop
        refine go v d k1 k2 (fun V' hV hVi => ?_)
        obtain ⟨s1, s2⟩ := same V' hV
        refine ⟨o, ho, hm, by rw [hq, hVi]; exact k1, .inl ?_⟩
        rw [s1, s2, hVi, hq]
        exact ⟨hgd, k3⟩
      split at h
      · next hg => exact run (.inl hg) h
      · next j want hg =>
        split at h
        · next b hb =>
          by_cases hbw : b = want
          · subst hbw; exact run (.inr ⟨j, b, hg, hb⟩) (h.1 rfl)
          · refine go (.tup []) [] (by unfold ownB; split <;> simp [ownL, ownS, lowL]) (h.2 hbw) (fun V' hV hVi => ?_)
            obtain ⟨s1, s2⟩ := same V' hV
            refine ⟨o, ho, hm, by rw [hq, hVi]; unfold ownB; split <;> simp [ownL, ownS, lowL], .inr ⟨j, want, b, hg, by rw [s1]; exact hb, hbw, hVi⟩⟩
        · exact h.elim
end

end Sx

/- Regions that draw their order: every order comes to the same. -/
set_option linter.unusedVariables false
set_option linter.unusedSimpArgs false
namespace Sx
open Go

theorem Good.lk_eq {B : Nat → Prop} {G : Nat → Option AV} {ρ : Nat → Nat} {D : Nat → Prop} {t t' : Tms} {e e' : Ents} {a : Act} {w : World} (ht : ∀ s, lk t s = lk t' s) (he : ∀ k, lk e k = lk e' k) (hg : Good B G ρ D t e a w) : Good B G ρ D t' e' a w := by
  have hs : Stab B ρ e' w = Stab B ρ e w := (Stab.lk_eq he).symm
  refine ⟨⟨fun m x hm => ?_, fun m m' x x' hm hm' hq => hg.mem.inj m m' x x' (by rw [he]; exact hm) (by rw [he]; exact hm') hq⟩, fun i x hi => ?_, hg.big, fun g x hx => ?_⟩
  · rw [hs]; exact hg.mem.en m x (by rw [he]; exact hm)
  · rw [hs]; exact hg.tm i x (by rw [ht]; exact hi)
  · rw [hs]; exact hg.gl g x hx
theorem At.lk_eq {G : Nat → Option AV} {h : Ents} {C : Ctx} {t t' : Tms} {e e' : Ents} {n m : Nat} {a : Act} {w : World} (ht : ∀ s, lk t s = lk t' s) (he : ∀ k, lk e k = lk e' k) (ha : At G h C ⟨t, e, n, m⟩ a w) : At G h C ⟨t', e', n, m⟩ a w := by
  obtain ⟨ρ, D, h1, h2, h3, h4⟩ := ha
  have hs : Stab C.B ρ e' w = Stab C.B ρ e w := (Stab.lk_eq he).symm
  exact ⟨ρ, D, h1.lk_eq ht he, ⟨h2.1.stab (fun b hb => by rw [hs]; exact hb), h2.2⟩, h3, h4.lk_eq he⟩

theorem Good.step {B : Nat → Prop} {G : Nat → Option AV} {ρ ρ' : Nat → Nat} {D D' : Nat → Prop} {t : Tms} {e e' : Ents} {a : Act} {w w' : World} {v : AV} {x : Value} {dst : Option Tmp}
    (hg : Good B G ρ D t e a w) (hm : inB dst a.tmps.size) (h2 : RV ρ' (Stab B ρ' e' w') w' D' v x) (h3 : Mem B ρ' D' e' w') (h4 : Evol B ρ D e w ρ' D' e' w') : Good B G ρ' D' (putT t dst v) e' (a.put dst x) w' := by
  refine ⟨h3, fun i y hi => ?_, fun b hb => hg.big b (Nat.le_trans h4.size hb), fun g y hy => (hg.gl g y hy).mono h4.evo NoNm (fun _ h => h.elim)⟩
  cases dst with
  | none =>
    obtain ⟨u, k1, k2⟩ := hg.tm i y hi
    exact ⟨u, k1, k2.mono h4.evo h4.agree⟩
  | some dd =>
    rw [lk_putT] at hi
    have hlt : dd < a.tmps.size := hm
    split at hi
    · next hq => subst hq; cases hi; exact ⟨x, by simp [Act.put, hlt], h2⟩
    · next hq =>
      obtain ⟨u, k1, k2⟩ := hg.tm i y hi
      exact ⟨u, by simp only [Act.put]; rw [Array.getElem?_setIfInBounds_ne hq]; exact k1, k2.mono h4.evo h4.agree⟩

/-- The state behind the listed operations. -/
def AtL (G : Nat → Option AV) (h : Ents) (C : Ctx) (ops : List Oper) (V : Tab) (n0 m : Nat) (t0 : Tms) (e0 : Ents) (L : Nat → Bool) (a : Act) (w : World) : Prop :=
  ∃ ρ D, Good C.B G ρ D (tF ops V t0 (idx ops.length L)) (eF V e0 (idx ops.length L)) a w ∧ (Mk C ρ (eF V e0 (idx ops.length L)) w a.defers ∧ a.tmps.size = m) ∧
    (∀ k, D k → k < n0 ∨ ∃ j, j < ops.length ∧ L j = true ∧ n0 + 16 * j ≤ k ∧ k < n0 + 16 * j + 16) ∧ Evol C.B C.ρ (Nm h) h C.w ρ D (eF V e0 (idx ops.length L)) w

theorem getD_set {l : Array Bool} {i : Nat} (hi : i < l.size) : (fun j => (l.setIfInBounds i true).getD j false) = ins (fun j => l.getD j false) i := by
  funext j
  simp only [ins]
  by_cases hj : j = i
  · subst hj; simp [Array.getD_eq_getD_getElem?, hi]
  · have : (j == i) = false := beq_eq_false_iff_ne.2 hj
    rw [this, Bool.false_or, Array.getD_eq_getD_getElem?, Array.getD_eq_getD_getElem?, Array.getElem?_setIfInBounds_ne (Ne.symm hj)]

theorem ready_spec {ops : List Oper} {listed : Array Bool} {i : Nat} (h : i ∈ Region.ready .any ops.toArray listed) : ∃ o, ops[i]? = some o ∧ listed.getD i true = false ∧ ∀ x ∈ o.after, Region.binds .any x = true → listed.getD x.on false = true := by
  simp only [Region.ready, List.mem_filter, List.mem_range, Bool.and_eq_true, Bool.not_eq_true', List.size_toArray, List.getElem?_toArray] at h
  obtain ⟨h1, h2, h3⟩ := h
  refine ⟨ops[i], List.getElem?_eq_getElem h1, h2, fun x hx hb => ?_⟩
  rw [List.getElem?_eq_getElem h1] at h3
  simp only [Option.map_some, Option.getD_some] at h3
  rw [Array.all_eq_true_iff_forall_mem] at h3
  have := h3 x hx
  rw [hb] at this
  simpa using this
theorem ready_of {ops : List Oper} {listed : Array Bool} {i : Nat} {o : Oper} (ho : ops[i]? = some o) (hl : listed.getD i true = false) (hx : ∀ x ∈ o.after, Region.binds .any x = true → listed.getD x.on false = true) : i ∈ Region.ready .any ops.toArray listed := by
  have hi := (List.getElem?_eq_some_iff.1 ho).1
  simp only [Region.ready, List.mem_filter, List.mem_range, Bool.and_eq_true, Bool.not_eq_true', List.size_toArray, List.getElem?_toArray]
  refine ⟨hi, hl, ?_⟩
  rw [ho]
  simp only [Option.map_some, Option.getD_some]
  rw [Array.all_eq_true_iff_forall_mem]
  intro x hm
  cases hb : Region.binds .any x with
  | false => rfl
  | true => simpa using hx x hm hb

section
variable {P : Program} {tt : Nat → Option TI} {G : Nat → Option AV} {ops : List Oper} {A : Infs} {n0 m : Nat}

theorem all_of_not_ready (hOK : drawOK ops A = true) {listed : Array Bool} (hs : listed.size = ops.length) (hr : Region.ready .any ops.toArray listed = []) : ∀ i, i < ops.length → listed.getD i false = true := by
  intro i
  induction i using Nat.strongRecOn with
  | ind i ih =>
    intro hi
    have ho := List.getElem?_eq_getElem hi
    cases hl : listed.getD i false with
    | true => rfl
    | false =>
      have : i ∈ Region.ready .any ops.toArray listed := by
        refine ready_of ho ?_ (fun x hx hb => ?_)
        · have : i < listed.size := by omega
          simp [Array.getD_eq_getD_getElem?, this] at hl ⊢; exact hl
        · have := (drawOK_get hOK ho).pre x hx hb
          exact ih x.on this (by omega)
      rw [hr] at this; cases this

theorem draw_any {ro : Option Nat} (hTT : TT P tt) (hOK : drawOK ops A = true) {h : Ents} {C : Ctx} {t0 : Tms} {e0 : Ents} {V : Tab} (hV : ∀ k, k < ops.length → OpG P tt G ops A n0 m t0 e0 V k) {Q : Exit → Act → World → Prop}
    (hQ : ∀ a w, At G h C ⟨tF ops V t0 (List.range ops.length), eF V e0 (List.range ops.length), n0 + 16 * ops.length, m⟩ a w → Q .normal a w) :
    ∀ (fuel : Nat) (listed : Array Bool) (a : Act) (w : World), listed.size = ops.length → ((List.range ops.length).filter fun j => !listed.getD j false).length = fuel → Down A ops.length (fun j => listed.getD j false) →
      AtL G h C ops V n0 m t0 e0 (fun j => listed.getD j false) a w → wpAnyIn (fr ro) 0 P .any ops.toArray Q fuel listed a w := by
  have hown : ∀ i, i < ops.length → ownB (A.getD i default).k (n0 + 16 * i) (V i).2 := fun i hi => by
    obtain ⟨_, _, _, h, _⟩ := hV i hi; exact h
  have fin : ∀ (listed : Array Bool) (a : Act) (w : World), AtL G h C ops V n0 m t0 e0 (fun j => listed.getD j false) a w → (∀ i, i < ops.length → listed.getD i false = true) → Q .normal a w := by
    intro listed a w ha hall
    obtain ⟨ρ, D, h1, h2, h3, h4⟩ := ha
    have : idx ops.length (fun j => listed.getD j false) = List.range ops.length := List.filter_eq_self.2 fun j hj => hall j (List.mem_range.1 hj)
    rw [this] at h1 h4
    refine hQ a w ⟨ρ, D, h1, (by rw [this] at h2; exact h2), fun k hk => ?_, h4⟩
    rcases h3 k hk with h | ⟨j, h5, _, _, h6⟩
    · show k < n0 + 16 * ops.length; omega
    · show k < n0 + 16 * ops.length; omega
  intro fuel
  induction fuel with
  | zero =>
    intro listed a w hs hf hd ha
    have hall : ∀ i, i < ops.length → listed.getD i false = true := fun i hi => by
      cases hl : listed.getD i false with
      | true => rfl
      | false =>
        have : i ∈ (List.range ops.length).filter fun j => !listed.getD j false := List.mem_filter.2 ⟨List.mem_range.2 hi, by rw [hl]; rfl⟩
        rw [List.length_eq_zero_iff.1 hf] at this; cases this
    refine ⟨?_, fin listed a w ha hall⟩
    apply List.eq_nil_iff_forall_not_mem.2
    intro i hi
    obtain ⟨o, ho, hl, _⟩ := ready_spec hi
    have hlt := (List.getElem?_eq_some_iff.1 ho).1
    have := hall i hlt
    have hlt' : i < listed.size := by omega
    simp [Array.getD_eq_getD_getElem?, hlt'] at hl this
    rw [hl] at this; cases this
  | succ fuel ih =>
    intro listed a w hs hf hd ha
    refine ⟨fun hr => fin listed a w ha (all_of_not_ready hOK hs hr), fun i hi => ?_⟩
    obtain ⟨o, ho, hl, hpre⟩ := ready_spec hi
    have hlt := (List.getElem?_eq_some_iff.1 ho).1
    have hlt' : i < listed.size := by omega
    have hLi : listed.getD i false = false := by
      simp [Array.getD_eq_getD_getElem?, hlt'] at hl ⊢; exact hl
    have K := drawOK_get hOK ho
    have hanc : ∀ j, isA A j i = true → listed.getD j false = true := by
      intro j hj
      obtain ⟨k1, x, hx, hb, hq⟩ := K.lt j hj
      have hxl := hpre x hx hb
      rcases hq with hq | hq
      · rw [← hq]; exact hxl
      · exact hd x.on (by have := K.pre x hx hb; omega) hxl j hq
    have hd' : Down A ops.length (fun j => (listed.setIfInBounds i true).getD j false) := by
      rw [getD_set hlt']
      intro k hk hLk j hj
      simp only [ins, Bool.or_eq_true, beq_iff_eq] at hLk ⊢
      rcases hLk with rfl | hLk
      · exact .inr (hanc j hj)
      · exact .inr (hd k hk hLk j hj)
    have hf' : ((List.range ops.length).filter fun j => !(listed.setIfInBounds i true).getD j false).length = fuel := by
      have e1 : ∀ j, (listed.setIfInBounds i true).getD j false = (j == i || listed.getD j false) := fun j => congrFun (getD_set hlt') j
      have e2 : ((List.range ops.length).filter fun j => !(listed.setIfInBounds i true).getD j false) = ((List.range ops.length).filter fun j => !listed.getD j false).erase i := by
        rw [List.Nodup.erase_eq_filter (List.Pairwise.filter _ List.nodup_range), List.filter_filter]
        apply List.filter_congr
        intro j _
        rw [e1]
        by_cases hj : j = i
        · subst hj; simp
        · have q1 : (j == i) = false := beq_eq_false_iff_ne.2 hj
          have q2 : (j != i) = true := by simp [hj]
          rw [q1, q2]; simp
      rw [e2, List.length_erase_of_mem (List.mem_filter.2 ⟨List.mem_range.2 hlt, by rw [hLi]; rfl⟩), hf]
      rfl
    obtain ⟨ρ, D, hg, had, hD, hev⟩ := id ha
    -- the state behind the operation
    have next : ∀ (x : Value) (w' : World) (ρ' : Nat → Nat) (D' : Nat → Prop), inB o.dst m → (∀ n, D' n → D n ∨ (n0 + 16 * i ≤ n ∧ n < n0 + 16 * i + 16)) →
        RV ρ' (Stab C.B ρ' (ap (V i).2 (eF V e0 (idx ops.length fun j => listed.getD j false))) w') w' D' (V i).1 x → Mem C.B ρ' D' (ap (V i).2 (eF V e0 (idx ops.length fun j => listed.getD j false))) w' →
        Evol C.B ρ D (eF V e0 (idx ops.length fun j => listed.getD j false)) w ρ' D' (ap (V i).2 (eF V e0 (idx ops.length fun j => listed.getD j false))) w' →
        wpAnyIn (fr ro) 0 P .any ops.toArray Q fuel (listed.setIfInBounds i true) (a.put o.dst x) w' := by
      intro x w' ρ' D' hm h1 h2 h3 h4
      refine ih _ _ _ (by simpa using hs) hf' hd' ?_
      have hg' := hg.step (dst := o.dst) (by rw [had.2]; exact hm) h2 h3 h4
      have ht : ∀ s, lk (putT (tF ops V t0 (idx ops.length fun j => listed.getD j false)) o.dst (V i).1) s = lk (tF ops V t0 (idx ops.length fun j => (listed.setIfInBounds i true).getD j false)) s := fun s => by
        rw [getD_set hlt']; exact (ins_t hOK ho hd hLi t0 s).symm
      have he : ∀ k, lk (ap (V i).2 (eF V e0 (idx ops.length fun j => listed.getD j false))) k = lk (eF V e0 (idx ops.length fun j => (listed.setIfInBounds i true).getD j false)) k := fun k => by
        rw [getD_set hlt']; exact (ins_e hOK hown ho hd hLi e0 k).symm
      refine ⟨ρ', D', hg'.lk_eq ht he, ?_, fun k hk => ?_, (hev.trans h4).lk_eq he⟩
      · have hst := Stab.lk_eq (B := C.B) (ρ := ρ') (w := w') he
        cases hdst : o.dst <;> exact ⟨(had.1.mono h4.evo).stab (fun b hb => by rw [← hst]; exact hb), by simpa [Act.put] using had.2⟩
      · rcases h1 k hk with h | h
        · rcases hD k h with h | ⟨j, q1, q2, q3⟩
          · exact .inl h
          · refine .inr ⟨j, q1, ?_, q3⟩
            show (listed.setIfInBounds i true).getD j false = true
            rw [congrFun (getD_set hlt') j]; simp only [ins]; rw [show listed.getD j false = true from q2]; simp
        · refine .inr ⟨i, hlt, ?_, h⟩
          show (listed.setIfInBounds i true).getD i false = true
          rw [congrFun (getD_set hlt') i]; simp [ins]
    obtain ⟨o', ho', hm, hwn, hcase⟩ := hV i hlt
    rw [ho] at ho'; cases ho'
    have lookt : ∀ s ∈ o.looksAt ops.toArray, lk (tF ops V t0 (List.range i)) s = lk (tF ops V t0 (idx ops.length fun j => listed.getD j false)) s := fun s hs => loc_t hOK ho hd hLi hanc t0 hs
    have gval : ∀ j want b, o.guard = some (j, want) → gdV ops (tF ops V t0 (List.range i)) j = some (.bool b) → yielded ops.toArray a.tmps j = some b := by
      intro j want b hgd hb
      unfold gdV at hb
      rw [Option.bind_eq_some_iff] at hb
      obtain ⟨dj, hd1, hd2⟩ := hb
      rw [lookt dj (by simp only [Oper.looksAt, hgd]; simp [hd1])] at hd2
      obtain ⟨v, hv1, hv2⟩ := hg.tm _ _ hd2
      rw [hv2.bool_inv] at hv1
      unfold yielded
      have : (ops.toArray[j]?).bind (·.dst) = some dj := by simpa using hd1
      rw [this, Option.bind_some, hv1]
    unfold wpOpIn
    have hoA : ops.toArray[i]? = some o := by simpa using ho
    rw [hoA]
    rcases hcase with ⟨hgd, hop⟩ | ⟨j, want, b, hgd, hb, hbw, hVi⟩
    · have hw : Region.wanted o (yielded ops.toArray a.tmps) = true := by
        rcases hgd with hgd | ⟨j, want, hgd, hb⟩
        · simp [Region.wanted, hgd]
        · simp [Region.wanted, hgd, gval j want want hgd hb]
      show if Region.wanted o (yielded ops.toArray a.tmps) = true then _ else _
      rw [if_pos hw]
      -- the operation, in the state at hand
      have hop' : ∃ e1, Le e1 (eF V e0 (idx ops.length fun j => listed.getD j false)) ∧
          exOp P tt G (tF ops V t0 (idx ops.length fun j => listed.getD j false)) e1 (n0 + 16 * i) o.op (fun v d => v = (V i).1 ∧ d = (V i).2) := by
        have hc : ∀ x ∈ o.op.operands, ev G (tF ops V t0 (List.range i)) x = ev G (tF ops V t0 (idx ops.length fun j => listed.getD j false)) x := by
          intro x hx
          cases x with
          | tmp s =>
            simp only [ev]
            refine lookt s ?_
            simp only [Oper.looksAt, List.mem_append, List.mem_filterMap]
            exact .inl ⟨.tmp s, by simpa using hx, rfl⟩
          | _ => rfl
        rw [exOp_congr hc] at hop
        cases hbl : blind o.op with
        | true => exact ⟨_, fun _ _ h => h, by rw [exOp_blind hbl] at hop; exact hop⟩
        | false => exact ⟨_, loc_e hOK hown ho hbl hd hLi hanc e0, hop⟩
      obtain ⟨e1, hle, hop'⟩ := hop'
      obtain ⟨v, d, ⟨rfl, rfl⟩, hs'⟩ := exOp_sound (dst := o.dst) (ty := o.type) (pos := o.pos) (after := o.after) (gd := o.guard) hTT hop'
      refine (hs' C.B ρ D _ _ a w (fun _ _ h => h) hle hg (fun n h1 h2 hn => ?_)).wpI (exOp_nodefer hop') (fun x w' hp => ?_)
      · rcases hD n hn with h | ⟨j, q1, q2, q3, q4⟩
        · omega
        · have : j = i := by omega
          subst this
          rw [show listed.getD j false = true from q2] at hLi; cases hLi
      · obtain ⟨ρ', D', h1, h2, h3, h4⟩ := hp
        exact next x w' ρ' D' hm h1 h2 h3 h4
    · have hw : ¬ Region.wanted o (yielded ops.toArray a.tmps) = true := by
        simp [Region.wanted, hgd, gval j want b hgd hb, hbw]
      show if Region.wanted o (yielded ops.toArray a.tmps) = true then _ else _
      rw [if_neg hw]
      refine ⟨fun f _ => fr_fn f, ?_⟩
      refine next undef w ρ D hm (fun n h => .inl h) ?_ ?_ ?_
      · rw [hVi]; exact .unit
      · rw [hVi]; exact hg.mem
      · rw [hVi]; exact Evol.refl w

theorem none_listed (n j : Nat) : (Array.replicate n false).getD j false = false := by
  rw [Array.getD_eq_getD_getElem?, Array.getElem?_replicate]; split <;> rfl

theorem exD_sound {ro : Option Nat} (hmix : P.follows .mixedOrders = true) (hTT : TT P tt) (hOK : drawOK ops A = true) {h : Ents} {id : Nat} {st : St} {Q : Exit → St → Prop}
    (hk : exD P tt G ops st.n st.m ops A st.t st.e st.n (Q .normal)) : W ro P G h (.region id ops.toArray true) st Q := by
  intro C a w ha
  obtain ⟨V, _, hK, hV⟩ := exD_tab (P := P) (tt := tt) (G := G) (ops := ops) (A := A) (t := st.t) (e := st.e) ops 0 (fun _ => (.tup [], [])) rfl (Nat.zero_le _) (by simpa [tF, eF] using hk)
  refine wpIn_region_any hmix ?_
  obtain ⟨ρ, D, hg, hd, hD, hev⟩ := ha
  refine draw_any hTT hOK (fun k hk => hV k (Nat.zero_le _) hk) (fun a' w' ha' => ⟨_, hK, ha'⟩) _ _ _ _ (by simp) ?_ ?_ ?_ (h := h) (C := C)
  · rw [List.filter_eq_self.2 (fun j _ => by rw [none_listed]; rfl)]; simp
  · intro i _ hL
    exact absurd (hL.symm.trans (none_listed _ i)) (by simp)
  · have hidx : idx ops.length (fun j => (Array.replicate ops.toArray.size false).getD j false) = [] :=
      List.filter_eq_nil_iff.2 (fun j _ => by rw [none_listed]; simp)
    obtain ⟨hm2, hev2⟩ := hg.mem.same (w' := { w with drawn := w.drawn + 1 }) rfl rfl rfl rfl
    refine ⟨ρ, D, ?_, ⟨by rw [hidx]; exact hd.1.mono hev2.evo, hd.2⟩, fun k hk => .inl (hD k hk), ?_⟩
    · rw [hidx]
      exact ⟨hm2, fun i x hi => (let ⟨v, h1, h2⟩ := hg.tm i x hi; ⟨v, h1, h2.mono hev2.evo hev2.agree⟩), hg.big, fun g y hy => (hg.gl g y hy).mono hev2.evo NoNm (fun _ h => h.elim)⟩
    · rw [hidx]
      exact hev.trans hev2

theorem W.drawK {ro : Option Nat} (A : Infs) (hmix : P.follows .mixedOrders = true) (hTT : TT P tt) (hOK : drawOK ops A = true) {h : Ents} {id : Nat} {st : St} {K : St → Prop} {Q : Exit → St → Prop}
    (hk : exD P tt G ops st.n st.m ops A st.t st.e st.n K) : W ro P G h (.region id ops.toArray true) st (thn K Q) :=
  exD_sound hmix hTT hOK hk
end

end Sx
