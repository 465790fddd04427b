/- Equality, choices, lengths, literals. -/
import Derived.Test.YtbefcdgjainflaaSxA
import Derived.ChangeKeysEq
import Derived.Laws.StructEq
import Derived.Laws.Small
import Derived.Laws.Strings
import Derived.Laws.Cover3
import Derived.MapKept
import Derived.Deep.AppendSrc
import Derived.Laws.MakeOwn
import Derived.Laws.BytesString
import Derived.Great.BuildSlice
import Derived.Laws.IdiomStrings
import Derived.Lib.AppendZerosOnto
set_option linter.unusedVariables false
set_option linter.unusedSimpArgs false
namespace Sx
open Go

/-! ### Parts that are written -/

theorem stC_cells {ρ : Nat → Nat} {S : Nat → Prop} {w : World} {N : Nat → Prop} {ti : TI} {cs ds : List AV} {vals vs : List Value} {o i : Nat} {v : AV} (hr : RC ρ S w N (.agg cs) vals) (hv : RC ρ S w N v vs) (h : Ok (stC ti cs o i v) ds) :
    vs.length = ti.size ∧ o + i + vs.length ≤ vals.length ∧ RC ρ S w N (.agg ds) (vals.take (o + i) ++ vs ++ vals.drop (o + i + vs.length)) := by
  unfold stC at h
  split at h
  · next hag =>
    obtain ⟨⟨h0, hva, hsz⟩, hl5⟩ := h.req
    subst h0
    obtain ⟨ds, hd, hl6⟩ := hl5.opt
    obtain ⟨es, he, hl7⟩ := hl6.opt
    have := hl7.ret; subst this
    have hlen := hv.comps.szL hsz
    obtain ⟨h3, h4⟩ := hr.take hd
    obtain ⟨h5, h6⟩ := hr.drop he
    refine ⟨hlen, by simp only [Nat.add_zero, hlen]; omega, ?_⟩
    simp only [Nat.add_zero, hlen, List.append_assoc]
    exact h3.append (hv.comps.append h5)
  · next hag =>
    obtain ⟨⟨h1s, hva, hvt⟩, hl5⟩ := h.req
    obtain ⟨u, rfl⟩ : ∃ u, vs = [u] := by
      cases hv <;> first | exact ⟨_, rfl⟩ | (simp [AV.isAgg] at hva)
    obtain ⟨hlt, hr2⟩ := RC.stS hv hr hl5
    refine ⟨by simp [h1s], by simp; omega, ?_⟩
    rw [List.set_eq_take_append_cons_drop, if_pos hlt] at hr2
    simpa using hr2

theorem fold_set (off : Nat) : ∀ (vs : List Value) (j : Nat) (c : Array Value), off + j + vs.length ≤ c.size →
    (vs.zipIdx j).foldl (fun cs (x : Value × Nat) => cs.setIfInBounds (off + x.2) x.1) c = (c.toList.take (off + j) ++ vs ++ c.toList.drop (off + j + vs.length)).toArray
  | [], j, c, h => by simp
  | v :: vs, j, c, h => by
    simp only [List.zipIdx_cons, List.foldl_cons]
    rw [fold_set off vs (j + 1) _ (by simp at h ⊢; omega)]
    congr 1
    simp only [Array.toList_setIfInBounds, List.length_cons]
    have hl : off + j < c.toList.length := by simp at h ⊢; omega
    rw [List.set_eq_take_append_cons_drop, if_pos hl]
    have e1 : (List.take (off + j) c.toList ++ v :: List.drop (off + j + 1) c.toList).take (off + (j + 1)) = List.take (off + j) c.toList ++ [v] := by
      rw [List.take_append, List.take_of_length_le (by simp; omega)]
      have : off + (j + 1) - (List.take (off + j) c.toList).length = 1 := by simp at hl ⊢; omega
      rw [this]; rfl
    have e2 : (List.take (off + j) c.toList ++ v :: List.drop (off + j + 1) c.toList).drop (off + (j + 1) + vs.length) = c.toList.drop (off + j + (vs.length + 1)) := by
      rw [List.drop_append, List.drop_of_length_le (by simp; omega)]
      have : off + (j + 1) + vs.length - (List.take (off + j) c.toList).length = vs.length + 1 := by simp at hl ⊢; omega
      rw [this, show off + j + (vs.length + 1) = off + j + 1 + vs.length by omega]
      simp
    rw [e1, e2]
    simp

/-- One part. -/
theorem fill_step {place : Nat → Option (Nat × Nat)} {cells : Array Value} {i off sz : Nat} {v : Value} {rest : List (Nat × Value)} (hp : place i = some (off, sz)) {vs : List Value} (hv : v.cells = vs.toArray) (hz : vs.length = sz) (hb : off + vs.length ≤ cells.size) :
    Instr.fill place cells ((i, v) :: rest) = Instr.fill place (cells.toList.take off ++ vs ++ cells.toList.drop (off + vs.length)).toArray rest := by
  have h1 : ¬ (vs.toArray.size ≠ sz ∨ off + vs.toArray.size > cells.size) := by simp; omega
  have := fold_set off vs 0 cells (by simpa using hb)
  simp only [Nat.add_zero] at this
  rw [Instr.fill, hp]
  simp only [hv]
  have h2 : (decide (vs.toArray.size ≠ sz) || decide (off + vs.toArray.size > cells.size)) = false := by simp; omega
  rw [if_neg (by simpa using h1)]
  congr 1
  rw [← this, ← Array.foldl_toList]
  congr 1
  simp [Array.toList_zipIdx]

inductive Two {α β : Type} (R : α → β → Prop) : List α → List β → Prop
  | nil : Two R [] []
  | cons {a b l l'} (h : R a b) (hs : Two R l l') : Two R (a :: l) (b :: l')

def evP (G : Nat → Option AV) (t : Tms) : List (Nat × Operand) → Option (List (Nat × AV))
  | [] => some []
  | (i, x) :: l => (ev G t x).bind fun v => (evP G t l).map ((i, v) :: ·)
def bldA (te : TI) : List (Nat × AV) → List AV → Q (List AV)
  | [], cs => ret cs
  | (i, v) :: l, cs => req (v.isTup = false) (bnd (stC te cs (i * te.size) 0 v) (bldA te l))
def bldS (tt : Nat → Option TI) (fs : List (Nat × Nat)) : List (Nat × AV) → List AV → Q (List AV)
  | [], cs => ret cs
  | (i, v) :: l, cs => req (v.isTup = false) (opt fs[i]? fun q => opt (tt q.2) fun tf => bnd (stC tf cs q.1 0 v) (bldS tt fs l))

section
variable {P : Program} {tt : Nat → Option TI} {G : Nat → Option AV} {t : Tms} {e : Ents} {nb : Nat} {dst : Option Tmp} {ty : TypeId} {pos : String} {after : Array Edge} {gd : Option (Nat × Bool)}

theorem evP_sound {B : Nat → Prop} {ρ : Nat → Nat} {D : Nat → Prop} {t' : Tms} {e' : Ents} {a : Act} {w : World} (hg : Good B G ρ D t' e' a w) (ht : Le t t') : ∀ {l : List (Nat × Operand)} {vs : List (Nat × AV)}, evP G t l = some vs →
    Two (fun (p : Nat × Operand) (q : Nat × AV) => p.1 = q.1 ∧ RV ρ (Stab B ρ e' w) w D q.2 (a.eval p.2)) l vs
  | [], _, h => by cases h; exact .nil
  | (i, x) :: l, _, h => by
    simp only [evP, Option.bind_eq_some_iff, Option.map_eq_some_iff] at h
    obtain ⟨v, h1, vs, h2, rfl⟩ := h
    exact .cons ⟨rfl, ev_sound hg ht h1⟩ (evP_sound hg ht h2)

theorem bldA_run {ρ : Nat → Nat} {S : Nat → Prop} {w : World} {N : Nat → Prop} {te : TI} {f : Operand → Value} : ∀ {l : List (Nat × Operand)} {vs : List (Nat × AV)} {cs ds : List AV} {vals : List Value},
    Two (fun (p : Nat × Operand) (q : Nat × AV) => p.1 = q.1 ∧ RV ρ S w N q.2 (f p.2)) l vs → RC ρ S w N (.agg cs) vals → Ok (bldA te vs cs) ds →
    ∃ us : List Value, Instr.fill (fun i => some (i * te.size, te.size)) vals.toArray (l.map fun p => (p.1, f p.2)) = some us.toArray ∧ RC ρ S w N (.agg ds) us
  | _, _, _, _, vals, .nil, hr, h => by cases h.ret; exact ⟨vals, rfl, hr⟩
  | _, _, _, _, vals, .cons (a := p) (b := q) h1 h2, hr, h => by
    obtain ⟨i, x⟩ := p
    obtain ⟨i', v⟩ := q
    obtain ⟨rfl, hv⟩ := h1
    simp only [bldA] at h
    obtain ⟨ht, h⟩ := h.req
    obtain ⟨cs', h3, h4⟩ := h.bnd
    obtain ⟨ws, hw1, hw2⟩ := hv.inv (fun l hl => by subst hl; cases ht)
    obtain ⟨k1, k2, k3⟩ := stC_cells hr hw2 h3
    simp only [Nat.add_zero] at k2 k3
    obtain ⟨us, k4, k5⟩ := bldA_run h2 k3 h4
    refine ⟨us, ?_, k5⟩
    rw [List.map_cons, fill_step (off := i * te.size) (sz := te.size) rfl (by rw [hw1]; exact hw2.cells) k1 (by simpa using k2)]
    simpa using k4
theorem bldS_run {ρ : Nat → Nat} {S : Nat → Prop} {w : World} {N : Nat → Prop} {fs : List (Nat × Nat)} {f : Operand → Value} {place : Nat → Option (Nat × Nat)} (hpl : ∀ i q tf, fs[i]? = some q → tt q.2 = some tf → place i = some (q.1, tf.size)) :
    ∀ {l : List (Nat × Operand)} {vs : List (Nat × AV)} {cs ds : List AV} {vals : List Value},
    Two (fun (p : Nat × Operand) (q : Nat × AV) => p.1 = q.1 ∧ RV ρ S w N q.2 (f p.2)) l vs → RC ρ S w N (.agg cs) vals → Ok (bldS tt fs vs cs) ds →
    ∃ us : List Value, Instr.fill place vals.toArray (l.map fun p => (p.1, f p.2)) = some us.toArray ∧ RC ρ S w N (.agg ds) us
  | _, _, _, _, vals, .nil, hr, h => by cases h.ret; exact ⟨vals, rfl, hr⟩
  | _, _, _, _, vals, .cons (a := p) (b := q) h1 h2, hr, h => by
    obtain ⟨i, x⟩ := p
    obtain ⟨i', v⟩ := q
    obtain ⟨rfl, hv⟩ := h1
    simp only [bldS] at h
    obtain ⟨ht, h⟩ := h.req
    obtain ⟨q, hq, h⟩ := h.opt
    obtain ⟨tf, htf, h⟩ := h.opt
    obtain ⟨cs', h3, h4⟩ := h.bnd
    obtain ⟨ws, hw1, hw2⟩ := hv.inv (fun l hl => by subst hl; cases ht)
    obtain ⟨k1, k2, k3⟩ := stC_cells hr hw2 h3
    simp only [Nat.add_zero] at k2 k3
    obtain ⟨us, k4, k5⟩ := bldS_run hpl h2 k3 h4
    refine ⟨us, ?_, k5⟩
    rw [List.map_cons, fill_step (off := q.1) (sz := tf.size) (hpl i q tf hq htf) (by rw [hw1]; exact hw2.cells) k1 (by simpa using k2)]
    simpa using k4

def bldF (tt : Nat → Option TI) (ti : TI) (vs : List (Nat × AV)) : Q AV :=
  match ti.kd with
  | .arr n el => opt (tt el) fun te => bnd (bldA te vs (comps ti.z)) fun cs => ret (.agg cs)
  | .strct fs => req (fs.all (fun q => (tt q.2).isSome) = true) (bnd (bldS tt fs vs (comps ti.z)) fun cs => ret (.agg cs))
  | _ => none

theorem sizes_run (hTT : TT P tt) (w : World) : ∀ (fields : List Field), (fields.map fun (f : Field) => (f.offset, f.type)).all (fun (q : Nat × Nat) => (tt q.2).isSome) = true →
    ∃ l : List (Nat × Nat), (fields.mapM fun (f : Field) => do pure (f.offset, ← sizeOf f.type) : Sem (List (Nat × Nat))).run P w = .ok l w ∧
      ∀ (i : Nat) (q : Nat × Nat) (tf : TI), (fields.map fun (f : Field) => (f.offset, f.type))[i]? = some q → tt q.2 = some tf → l[i]? = some (q.1, tf.size)
  | [], _ => ⟨[], by simp, fun i q tf h => by simp at h⟩
  | f :: fields, h => by
    simp only [List.map_cons, List.all_cons, Bool.and_eq_true] at h
    obtain ⟨l, h1, h2⟩ := sizes_run hTT w fields h.2
    obtain ⟨tf, htf⟩ := Option.isSome_iff_exists.1 h.1
    refine ⟨(f.offset, tf.size) :: l, ?_, fun i q tf' hi ht => ?_⟩
    · simp only [List.mapM_cons, Sem.run_bind, (hTT _ _ htf).run_size, Result.andThen_ok, Sem.run_pure, h1]
    · cases i with
      | zero => simp at hi; subst hi; simp only at ht; rw [htf] at ht; cases ht; rfl
      | succ i => simpa using h2 i q tf' (by simpa using hi) ht

theorem sound_build (hTT : TT P tt) {T : Nat} {ti : TI} {ps : Array (Nat × Operand)} {vs : List (Nat × AV)} {v : AV} (hT : TyOK P T ti) (hps : evP G t ps.toList = some vs) (h : Ok (bldF tt ti vs) v) :
    OpSound P G t e nb ⟨dst, .build T ps, ty, pos, after, gd⟩ v [] := by
  intro B ρ D t' e' a w ht _ hg _
  have hz := (RC.conc ρ (Stab B ρ e' w) w D ti.z hT.pl)
  have h2 := evP_sound hg ht hps
  have hparts : (ps.map fun (i, x) => (i, a.eval x)).toList = ps.toList.map fun p => (p.1, a.eval p.2) := by simp
  unfold bldF at h
  split at h
  · next n el hk =>
    obtain ⟨te, hte, h⟩ := h.opt
    obtain ⟨cs, h3, h4⟩ := h.bnd
    have := h4.ret; subst this
    obtain ⟨us, k1, k2⟩ := bldA_run h2 hz.comps h3
    refine .value (x := .agg us.toArray) (w' := w) ?_ (Post.pure hg.mem (.one k2))
    simp only [execOp, Instr.build, Sem.run_bind, hT.run_zero, Result.andThen_ok, run_underlying (hT.uarr hk), (hTT _ _ hte).run_size, hz.cells, hparts, k1, Sem.run_pure]
  · next fs hk =>
    obtain ⟨hall, h⟩ := h.req
    obtain ⟨cs, h3, h4⟩ := h.bnd
    have := h4.ret; subst this
    obtain ⟨fields, hu, hfs⟩ := hT.ustruct hk
    subst hfs
    obtain ⟨l, hl1, hl2⟩ := sizes_run hTT w fields.toList hall
    obtain ⟨us, k1, k2⟩ := bldS_run (place := (l.toArray[·]?)) (by simpa using hl2) h2 hz.comps h3
    refine .value (x := .agg us.toArray) (w' := w) ?_ (Post.pure hg.mem (.one k2))
    have hm : (fields.mapM fun (f : Field) => do pure (f.offset, ← sizeOf f.type) : Sem (Array (Nat × Nat))).run P w = .ok l.toArray w := by
      rw [Array.mapM_eq_mapM_toList]
      simp only [Sem.run_map]
      exact congrArg (fun r : Result (List (Nat × Nat)) => r.andThen fun a w' => Result.ok a.toArray w') hl1
    simp only [execOp, Instr.build, Sem.run_bind, hT.run_zero, Result.andThen_ok, run_underlying hu, hz.cells, hparts]
    simp only [Sem.run_bind, hm, Result.andThen_ok, k1, Sem.run_pure]
  · exact h.none.elim

/-! ### Choices -/

def pickF (c : AV) (x y : Option AV) : Q AV :=
  match c with
  | .bool true => opt x ret
  | .bool false => opt y ret
  | _ => none
theorem sound_pick {c x y : Operand} {b v : AV} (hc : ev G t c = some b) (h : Ok (pickF b (ev G t x) (ev G t y)) v) : OpSound P G t e nb ⟨dst, .pick c x y, ty, pos, after, gd⟩ v [] := by
  intro B ρ D t' e' a w ht _ hg _
  unfold pickF at h
  split at h
  · obtain ⟨u, h1, h2⟩ := h.opt
    have := h2.ret; subst this
    have hb := (ev_sound hg ht hc).bool_inv
    exact .value (x := a.eval x) (w' := w) (by simp [execOp, hb, asBool]) (Post.pure hg.mem (ev_sound hg ht h1))
  · obtain ⟨u, h1, h2⟩ := h.opt
    have := h2.ret; subst this
    have hb := (ev_sound hg ht hc).bool_inv
    exact .value (x := a.eval y) (w' := w) (by simp [execOp, hb, asBool]) (Post.pure hg.mem (ev_sound hg ht h1))
  · exact h.none.elim

/-- What is no nil. -/
def notNil : AV → Bool
  | .ptr _ _ _ _ | .pel _ => true
  | .fn (.func _) _ => true
  | _ => false
theorem sound_nilCheck {x : Operand} {v : AV} (hx : ev G t x = some v) (h : notNil v = true) : OpSound P G t e nb ⟨dst, .nilCheck x, ty, pos, after, gd⟩ v [] := by
  intro B ρ D t' e' a w ht _ hg _
  have hv := ev_sound hg ht hx
  have : (execOp a.eval ⟨dst, .nilCheck x, ty, pos, after, gd⟩).run P w = .ok (.value (a.eval x)) w := by
    cases v <;> simp only [notNil, Bool.false_eq_true] at h
    all_goals
      obtain ⟨cs, h1, h2⟩ := hv.inv (by simp)
    · cases h2; simp [execOp, h1, shape, AV.isAgg]
    · cases h2; simp [execOp, h1, shape, AV.isAgg]
    · cases h2 with
      | fn vs =>
        rename_i f cap _ _
        cases f <;> simp only [notNil, Bool.false_eq_true] at h
        simp [execOp, h1, shape, AV.isAgg]
      | fnb vs =>
        rename_i f bnd _
        cases f <;> simp only [notNil, Bool.false_eq_true] at h
        simp [execOp, h1, shape, AV.isAgg]
  exact .value this (Post.pure hg.mem hv)

/-! ### Equality -/

def intsOf (k : IntKind) : List AV → Option (List Int)
  | [] => some []
  | .int k' n :: l => if k' = k then (intsOf k l).map (n :: ·) else none
  | .ints k' _ xs :: l => if k' = k then (intsOf k l).map (xs ++ ·) else none
  | _ :: _ => none
theorem intsOf_spec {ρ : Nat → Nat} {S : Nat → Prop} {w : World} {N : Nat → Prop} {k : IntKind} : ∀ {l : List AV} {xs : List Int} {cs : List Value}, intsOf k l = some xs → RC ρ S w N (.agg l) cs → cs = xs.map (Value.int k)
  | [], _, _, h, hr => by cases h; cases hr; rfl
  | c :: l, xs, _, h, .cons h1 h2 => by
    cases c <;> simp only [intsOf] at h <;> first | (cases h; done) | skip
    all_goals
      split at h
      · next hk =>
        subst hk
        simp only [Option.map_eq_some_iff] at h
        obtain ⟨ys, h3, rfl⟩ := h
        cases h1
        rw [intsOf_spec h3 h2]; simp
      · cases h

def eqOp (op : BinOp) (r : Bool) : Q AV :=
  match op with
  | .eql => ret (.bool r)
  | .neq => ret (.bool !r)
  | _ => none
/-- Two cells are alike. -/
def cellEq : Kd → AV → AV → Option Bool
  | .int _, .int k x, .int k' y => if k = k' then some (x == y) else none
  | .str, .str s, .str t => some (s.toList == t.toList)
  | .bool, .bool x, .bool y => some (x == y)
  | _, _, _ => none
/-- Two structs of single cells are alike. -/
def strEq (tt : Nat → Option TI) : List (Nat × Nat) → List AV → List AV → Nat → Option Bool
  | [], [], [], _ => some true
  | (o, T) :: fs, a :: cs, b :: ds, k => if o = k then (tt T).bind fun tf => (cellEq tf.kd a b).bind fun r => (strEq tt fs cs ds (k + 1)).map fun q => r && q else none
  | _, _, _, _ => none
def binG (tt : Nat → Option TI) (T : Nat) (op : BinOp) (a b : AV) : Q AV :=
  match a, b with
  | .bool x, .bool y => opt (tt T) fun ti => match ti.kd with
    | .bool => eqOp op (x == y)
    | _ => none
  | .agg cs, .agg ds => opt (tt T) fun ti => match ti.kd with
    | .arr n el => opt (tt el) fun te => match te.kd with
      | .int k => opt (intsOf k cs) fun xs => opt (intsOf k ds) fun ys => req (xs.length = n ∧ ys.length = n ∧ te.size = 1) (eqOp op (xs == ys))
      | _ => none
    | .strct fs => opt (strEq tt fs cs ds 0) fun r => eqOp op r
    | _ => none
  | .sl _ _ _ _, .nils => opt (tt T) fun ti => match ti.kd with
    | .slice _ => eqOp op false
    | _ => none
  | .nils, .nils => opt (tt T) fun ti => match ti.kd with
    | .slice _ => eqOp op true
    | _ => none
  | .ptr _ _ _ _, .nilp => opt (tt T) fun ti => match ti.kd with
    | .ptr _ => eqOp op false
    | _ => none
  | .nilp, .nilp => opt (tt T) fun ti => match ti.kd with
    | .ptr _ => eqOp op true
    | _ => none
  | .mp _, .nilm => opt (tt T) fun ti => match ti.kd with
    | .map _ _ => eqOp op false
    | _ => none
  | .nilm, .nilm => opt (tt T) fun ti => match ti.kd with
    | .map _ _ => eqOp op true
    | _ => none
  | .ifc _ _, .nili => opt (tt T) fun ti => match ti.kd with
    | .ifc => eqOp op false
    | _ => none
  | a, b => binF op a b
/-- The same; nil of an interface's type is compared with the literal nil alone. -/
def binI (tt : Nat → Option TI) (T : Nat) (op : BinOp) (y : Operand) (a b : AV) : Q AV :=
  match a, b with
  | .nili, .nili => match y with
    | .const _ => opt (tt T) fun ti => match ti.kd with
      | .ifc => eqOp op true
      | _ => none
    | _ => none
  | a, b => binG tt T op a b

theorem eqOp_run {op : BinOp} {r : Bool} {v : AV} {x y : Value} {T : TypeId} {w : World} (hq : (Op.equal T x y).run P w = .ok r w) (hb : ∀ op' : BinOp, op' = .eql ∨ op' = .neq → ∀ b, (Op.equal T x y).run P w = .ok b w → (binOp op' T x y).run P w = .ok (.bool (if op' = .eql then b else !b)) w)
    (h : Ok (eqOp op r) v) : ∃ u, (binOp op T x y).run P w = .ok u w ∧ ∀ ρ S N, RV ρ S w N v u := by
  cases op <;> simp only [eqOp] at h
  case eql => have := h.ret; subst this; exact ⟨_, hb .eql (.inl rfl) r hq, fun _ _ _ => .ofBool⟩
  case neq => have := h.ret; subst this; exact ⟨_, hb .neq (.inr rfl) r hq, fun _ _ _ => .ofBool⟩
  all_goals exact h.none.elim

theorem eqItems_ints {T : TypeId} {te : TI} {k : IntKind} (hT : TyOK P T te) (hk : te.kd = .int k) (d : Nat) (w : World) (xs ys : List Int) (c : Nat) (hc : c = 1) : ∀ (is : List Nat), (∀ i ∈ is, i < xs.length ∧ i < ys.length) →
    (Op.eqItems (d + 1) T c (xs.map (Value.int k)).toArray (ys.map (Value.int k)).toArray is).run P w = .ok (is.all fun i => xs.getD i 0 == ys.getD i 0) w
  | [], _ => by simp [Op.eqItems]
  | i :: is, h => by
    subst hc
    obtain ⟨h1, h2⟩ := h i (by simp)
    have hu : P.underlying T = some (.int k) := hT.uint hk
    have hpl : P.plainKey T = true := by simp [Program.plainKey, hu]
    have p1 := run_part_plain w hpl (xs := (xs.map (Value.int k)).toArray) (off := i * 1) (v := .int k xs[i]) (by simp [h1])
    have p2 := run_part_plain w hpl (xs := (ys.map (Value.int k)).toArray) (off := i * 1) (v := .int k ys[i]) (by simp [h2])
    have p3 := run_equalIn_int (P := P) w d T k k xs[i] ys[i] hu
    have ih := eqItems_ints hT hk d w xs ys 1 rfl is (fun j hj => h j (by simp [hj]))
    simp only [Op.eqItems, Sem.run_bind, p1, p2, p3, Result.andThen_ok]
    have e1 : xs.getD i 0 = xs[i] := by simp [h1]
    have e2 : ys.getD i 0 = ys[i] := by simp [h2]
    rw [List.all_cons, e1, e2]
    cases hb : (xs[i] == ys[i]) with
    | false => simp
    | true => simpa using ih
theorem all_getD {n : Nat} {xs ys : List Int} (h1 : xs.length = n) (h2 : ys.length = n) : ((List.range n).all fun i => xs.getD i 0 == ys.getD i 0) = (xs == ys) := by
  rw [Bool.eq_iff_iff]
  simp only [List.all_eq_true, List.mem_range, beq_iff_eq]
  constructor
  · intro h
    apply List.ext_getElem (by omega)
    intro i k1 k2
    have := h i (by omega)
    simpa [k1, k2] using this
  · rintro rfl i _; rfl


theorem eqGuardType_ints {T el n : Nat} {k : IntKind} (h1 : P.underlying T = some (.array n el)) (h2 : P.underlying el = some (.int k)) : P.eqGuardType P.depth T = false := by
  have : P.depth = (2 * (P.types.size + Made.depth)) + 1 + 1 := rfl
  rw [this]
  simp [Program.eqGuardType, h1, h2]

theorem uptr {T : Nat} {ti : TI} (h : TyOK P T ti) {e : Nat} (hk : ti.kd = .ptr e) : P.underlying T = some (.pointer e) := by
  obtain ⟨d, hd, h2⟩ := h.under
  rw [hk] at h2
  cases d <;> simp [kdOf] at h2
  rw [hd, h2]

theorem TyOK.umap {T : Nat} {ti : TI} (h : TyOK P T ti) {k v : Nat} (hk : ti.kd = .map k v) : P.underlying T = some (.map k v) := by
  obtain ⟨d, hd, h2⟩ := h.under
  rw [hk] at h2
  cases d <;> simp [kdOf] at h2
  rw [hd, h2.1, h2.2]
theorem run_eq_map {T k v : Nat} (hu : P.underlying T = some (.map k v)) (p : Option Nat) (w : World) : ∀ d : Nat, (Op.equalIn (d + 1) T (.map p) (.map none)).run P w = .ok p.isNone w := by
  intro d; cases p <;> simp [Op.equalIn, run_underlying hu]
theorem run_eq_ptr {T el : Nat} (hu : P.underlying T = some (.pointer el)) (p : Option Addr) (w : World) : ∀ d : Nat, (Op.equalIn (d + 1) T (.pointer p) (.pointer none)).run P w = .ok p.isNone w := by
  intro d; cases p <;> simp [Op.equalIn, run_underlying hu]
theorem TyOK.uifc {T : Nat} {ti : TI} (h : TyOK P T ti) (hk : ti.kd = .ifc) : ∃ ms, P.underlying T = some (.interface ms) := by
  obtain ⟨d, hd, h2⟩ := h.under
  rw [hk] at h2
  cases d <;> simp [kdOf] at h2
  exact ⟨_, hd⟩
theorem run_eq_ifc {T : Nat} {ms} (hu : P.underlying T = some (.interface ms)) (t : TypeId) (v : Value) (w : World) : ∀ d : Nat, (Op.equalIn (d + 1) T (.iface t v) .nilIface).run P w = .ok false w := by
  intro d; simp [Op.equalIn, run_underlying hu]
theorem run_eq_nifc {T : Nat} {ms} (hu : P.underlying T = some (.interface ms)) (w : World) : ∀ d : Nat, (Op.equalIn (d + 1) T .nilIface .nilIface).run P w = .ok true w := by
  intro d; simp [Op.equalIn, run_underlying hu]
theorem binF_bool {T : Nat} {x y : Value} {w : World} {op' : BinOp} (ho : op' = .eql ∨ op' = .neq) (h : (match x with | .bool _ => True | .agg _ => True | .slice _ _ _ => True | .pointer _ => True | _ => False)) {b : Bool} (hb : (Op.equal T x y).run P w = .ok b w) :
    (binOp op' T x y).run P w = .ok (.bool (if op' = .eql then b else !b)) w := by
  rcases ho with rfl | rfl <;> cases x <;> first | exact h.elim | (simp [binOp, hb]) 

theorem cellEq_run {T : Nat} {tf : TI} {a b : AV} {r : Bool} (hT : TyOK P T tf) (h : cellEq tf.kd a b = some r) {ρ : Nat → Nat} {S : Nat → Prop} {w : World} {N : Nat → Prop} {ca cb : List Value} (ha : RC ρ S w N a ca) (hb : RC ρ S w N b cb) :
    ∃ u v, ca = [u] ∧ cb = [v] ∧ P.plainKey T = true ∧ (∀ d, (Op.equalIn (d + 1) T u v).run P w = .ok r w) ∧ P.eqGuardType (2 * (P.types.size + Made.depth) + 1) T = false := by
  unfold cellEq at h
  split at h
  · rename_i k0 k x k' y hk
    split at h
    · next hq =>
      subst hq
      cases h
      cases ha; cases hb
      have hu := hT.uint hk
      exact ⟨_, _, rfl, rfl, by simp [Program.plainKey, hu], fun d => run_equalIn_int w d T k k0 x y hu, by simp [Program.eqGuardType, hu]⟩
    · cases h
  · rename_i s t hk
    cases h
    cases ha; cases hb
    have hu := hT.ustr hk
    exact ⟨_, _, rfl, rfl, by simp [Program.plainKey, hu], fun d => run_equalIn_string w d T s t hu, by simp [Program.eqGuardType, hu]⟩
  · rename_i x y hk
    cases h
    cases ha; cases hb
    have hu := hT.ubool hk
    exact ⟨_, _, rfl, rfl, by simp [Program.plainKey, hu], fun d => run_equalIn_bool' w d T x y hu, by simp [Program.eqGuardType, hu]⟩
  · cases h
theorem strEq_run (hTT : TT P tt) {ρ : Nat → Nat} {S : Nat → Prop} {w : World} {N : Nat → Prop} (d : Nat) {xs ys : Array Value} : ∀ {gs : List Field} {cs ds : List AV} {k : Nat} {r : Bool} {a b : List Value},
    (∀ f ∈ gs, f.name ≠ "_") → strEq tt (gs.map fun f => (f.offset, f.type)) cs ds k = some r → RC ρ S w N (.agg cs) a → RC ρ S w N (.agg ds) b → (∀ (j : Nat) u, a[j]? = some u → xs[k + j]? = some u) → (∀ (j : Nat) u, b[j]? = some u → ys[k + j]? = some u) →
    (Op.eqFields (d + 1) xs ys gs).run P w = .ok r w ∧ ∀ f ∈ gs, P.eqGuardType (2 * (P.types.size + Made.depth) + 1) f.type = false
  | [], [], [], k, r, a, b, _, h, _, _, _, _ => by
    simp only [List.map_nil, strEq] at h
    cases h
    exact ⟨by simp [Op.eqFields], fun f hf => by cases hf⟩
  | f :: gs, c :: cs, e :: ds, k, r, a, b, hn, h, ha, hb, hx, hy => by
    simp only [List.map_cons, strEq] at h
    split at h
    · next ho =>
      rw [Option.bind_eq_some_iff] at h
      obtain ⟨tf, htf, h⟩ := h
      rw [Option.bind_eq_some_iff] at h
      obtain ⟨r1, h1, h⟩ := h
      rw [Option.map_eq_some_iff] at h
      obtain ⟨r2, h2, rfl⟩ := h
      cases ha with
      | cons ha1 ha2 =>
      cases hb with
      | cons hb1 hb2 =>
      obtain ⟨u, v, rfl, rfl, hpl, heq, hgd⟩ := cellEq_run (hTT _ _ htf) h1 ha1 hb1
      have px := run_part_plain (P := P) w hpl (xs := xs) (off := f.offset) (v := u) (by have := hx 0 u (by simp); rw [ho]; simpa using this)
      have py := run_part_plain (P := P) w hpl (xs := ys) (off := f.offset) (v := v) (by have := hy 0 v (by simp); rw [ho]; simpa using this)
      obtain ⟨ih, ih2⟩ := strEq_run hTT d (k := k + 1) (fun g hg => hn g (by simp [hg])) h2 ha2 hb2
        (fun j z hz => by have := hx (j + 1) z (by simpa using hz); rwa [show k + (j + 1) = k + 1 + j by omega] at this)
        (fun j z hz => by have := hy (j + 1) z (by simpa using hz); rwa [show k + (j + 1) = k + 1 + j by omega] at this)
      refine ⟨?_, fun g hg => ?_⟩
      · simp only [Op.eqFields, if_pos (hn f (by simp)), Sem.run_bind, px, py, heq d, Result.andThen_ok]
        cases r1
        · simp
        · simpa using ih
      · rcases List.mem_cons.1 hg with rfl | hg
        · exact hgd
        · exact ih2 g hg
    · cases h
  | [], [], _ :: _, _, _, _, _, _, h, _, _, _, _ | [], _ :: _, _, _, _, _, _, _, h, _, _, _, _ | _ :: _, [], _, _, _, _, _, _, h, _, _, _, _ | _ :: _, _ :: _, [], _, _, _, _, _, h, _, _, _, _ => by simp [strEq] at h

theorem binG_run (hTT : TT P tt) {T : Nat} {op : BinOp} {a b v : AV} {x y : Value} {ρ : Nat → Nat} {S : Nat → Prop} {w : World} {N : Nat → Prop} (hx : RV ρ S w N a x) (hy : RV ρ S w N b y) (X Y : Operand) (h : Ok (binG tt T op a b) v) :
    ∃ u, (do eqGuard op T X Y x y; binOp op T x y : Sem Value).run P w = .ok u w ∧ RV ρ S w N v u := by
  unfold binG at h
  split at h
  · next p q =>
    obtain ⟨ti, h1, h⟩ := h.opt
    split at h
    · next hk =>
      obtain rfl := hx.bool_inv
      obtain rfl := hy.bool_inv
      have hu := (hTT _ _ h1).ubool hk
      obtain ⟨u, k1, k2⟩ := eqOp_run (P := P) (w := w) (T := T) (x := .bool p) (y := .bool q) (run_equal_bool w T p q hu) (fun op' ho b hb => by
        rcases ho with rfl | rfl <;> simp [binOp, hb]) h
      exact ⟨u, by rw [Sem.run_bind]; rw [show (eqGuard op T X Y (.bool p) (.bool q)).run P w = .ok () w by unfold eqGuard; cases op <;> simp]; exact k1, k2 _ _ _⟩
    · exact h.none.elim
  · next cs ds =>
    obtain ⟨ti, h1, h⟩ := h.opt
    split at h
    · next n el hk =>
      obtain ⟨te, h2, h⟩ := h.opt
      split at h
      · next k hke =>
        obtain ⟨xs, h3, h⟩ := h.opt
        obtain ⟨ys, h4, h⟩ := h.opt
        obtain ⟨⟨l1, l2, l3⟩, h⟩ := h.req
        obtain ⟨c1, e1, r1⟩ := hx.inv (by simp)
        obtain ⟨c2, e2, r2⟩ := hy.inv (by simp)
        subst e1 e2
        have q1 := intsOf_spec h3 r1
        have q2 := intsOf_spec h4 r2
        subst q1 q2
        have hu := (hTT _ _ h1).uarr hk
        have hue := (hTT _ _ h2).uint hke
        obtain ⟨i, hi, hsz, _⟩ := (hTT _ _ h2).info
        have hce : P.cellsOf el = 1 := by simp [Program.cellsOf, hi, hsz, l3]
        have heq : (Op.equal T (.agg (xs.map (Value.int k)).toArray) (.agg (ys.map (Value.int k)).toArray)).run P w = .ok (xs == ys) w := by
          show (Op.equalIn (9999 + 1) T _ _).run P w = _
          rw [run_equalIn_array w 9999 _ _ hu hi, show (9999 : Nat) = 9998 + 1 from rfl, eqItems_ints (hTT _ _ h2) hke 9998 w xs ys _ hce _ (fun i hi => by have := List.mem_range.1 hi; omega), all_getD l1 l2]
        obtain ⟨u, k1, k2⟩ := eqOp_run (P := P) (w := w) (T := T) heq (fun op' ho b hb => by
          rcases ho with rfl | rfl <;> simp [binOp, hb]) h
        refine ⟨u, ?_, k2 _ _ _⟩
        simp only [shape, AV.isAgg, cond_true]
        rw [Sem.run_bind, run_eqGuard_agg w op T X Y _ _ (eqGuardType_ints hu hue)]
        exact k1
      · exact h.none.elim
    · next fs hk =>
      obtain ⟨r, h2, hqq⟩ := h.opt
      clear h
      obtain ⟨c1, e1, r1⟩ := hx.inv (by simp)
      obtain ⟨c2, e2, r2⟩ := hy.inv (by simp)
      subst e1 e2
      obtain ⟨gs, hgs, hfs⟩ := (hTT _ _ h1).ustruct hk
      have hok := (hTT _ _ h1).eqn
      unfold eqOK at hok
      rw [hgs] at hok
      simp only [Bool.and_eq_true, Bool.not_eq_true'] at hok
      obtain ⟨hn, hst⟩ := hok
      have hn' : ∀ f ∈ gs.toList, f.name ≠ "_" := fun f hf hq => by
        rw [List.any_eq_false] at hn
        exact hn f hf (by simp [hq])
      have hfo : P.fieldsOf T = gs := by simp [Program.fieldsOf, hgs]
      subst hfs
      obtain ⟨g1, g2⟩ := strEq_run hTT 9998 (xs := c1.toArray) (ys := c2.toArray) hn' h2 r1 r2 (fun j u hj => by simpa using hj) (fun j u hj => by simpa using hj)
      have heq : (Op.equal T (.agg c1.toArray) (.agg c2.toArray)).run P w = .ok r w := by
        show (Op.equalIn (9999 + 1) T _ _).run P w = _
        rw [run_equalIn_struct w 9999 T _ _ (by rw [hfo]; exact hgs) hst, hfo]
        exact g1
      have hgt : P.eqGuardType P.depth T = false := by
        have : P.depth = (2 * (P.types.size + Made.depth) + 1) + 1 := rfl
        rw [this, Program.eqGuardType]
        simp only [hgs]
        rw [← Array.any_toList, List.any_eq_false]
        intro f hf
        have := g2 f hf
        simp [this]
      obtain ⟨u, k1, k2⟩ := eqOp_run (P := P) (w := w) (T := T) heq (fun op' ho b hb => by
        rcases ho with rfl | rfl <;> simp [binOp, hb]) hqq
      refine ⟨u, ?_, k2 _ _ _⟩
      simp only [shape, AV.isAgg, cond_true]
      rw [Sem.run_bind, run_eqGuard_agg w op T X Y _ _ hgt]
      exact k1
    · exact h.none.elim
  · next nm sz off len =>
    obtain ⟨ti, h1, h⟩ := h.opt
    split at h
    · next el hk =>
      obtain ⟨c1, e1, r1⟩ := hx.inv (by simp)
      obtain ⟨c2, e2, r2⟩ := hy.inv (by simp)
      subst e1 e2
      cases r1; cases r2
      rename_i cap a c h0 ha hl hm hb hc
      have hu := (hTT _ _ h1).uslice hk
      obtain ⟨u, k1, k2⟩ := eqOp_run (P := P) (w := w) (T := T) (x := .slice (some a) len cap) (y := .slice none 0 0) (r := false) (run_equal_slice_nil w T el (some a) len cap hu) (fun op' ho b hb => by
        rcases ho with rfl | rfl <;> simp [binOp, hb]) h
      refine ⟨u, ?_, k2 _ _ _⟩
      simp only [shape, AV.isAgg, cond_false, List.headD_cons]
      rw [Sem.run_bind, show (eqGuard op T X Y (.slice (some a) len cap) (.slice none 0 0)).run P w = .ok () w by unfold eqGuard; cases op <;> simp]
      exact k1
    · exact h.none.elim
  · obtain ⟨ti, h1, h⟩ := h.opt
    split at h
    · next el hk =>
      obtain ⟨c1, e1, r1⟩ := hx.inv (by simp)
      obtain ⟨c2, e2, r2⟩ := hy.inv (by simp)
      subst e1 e2
      cases r1; cases r2
      have hu := (hTT _ _ h1).uslice hk
      obtain ⟨u, k1, k2⟩ := eqOp_run (P := P) (w := w) (T := T) (x := .slice none 0 0) (y := .slice none 0 0) (r := true) (run_equal_slice_nil w T el none 0 0 hu) (fun op' ho b hb => by
        rcases ho with rfl | rfl <;> simp [binOp, hb]) h
      refine ⟨u, ?_, k2 _ _ _⟩
      simp only [shape, AV.isAgg, cond_false, List.headD_cons]
      rw [Sem.run_bind, show (eqGuard op T X Y (.slice none 0 0) (.slice none 0 0)).run P w = .ok () w by unfold eqGuard; cases op <;> simp]
      exact k1
    · exact h.none.elim
  · next nm o i sz =>
    obtain ⟨ti, h1, h⟩ := h.opt
    split at h
    · next el hk =>
      obtain ⟨c1, e1, r1⟩ := hx.inv (by simp)
      obtain ⟨c2, e2, r2⟩ := hy.inv (by simp)
      subst e1 e2
      cases r1; cases r2
      have hu := uptr (hTT _ _ h1) hk
      obtain ⟨u, k1, k2⟩ := eqOp_run (P := P) (w := w) (T := T) (x := .pointer (some ⟨ρ nm, o + i * sz, none⟩)) (y := .pointer none) (r := false) (run_eq_ptr hu _ w 9999) (fun op' ho b hb => by
        rcases ho with rfl | rfl <;> simp [binOp, hb]) h
      refine ⟨u, ?_, k2 _ _ _⟩
      simp only [shape, AV.isAgg, cond_false, List.headD_cons]
      rw [Sem.run_bind, show (eqGuard op T X Y (.pointer (some ⟨ρ nm, o + i * sz, none⟩)) (.pointer none)).run P w = .ok () w by unfold eqGuard; cases op <;> simp]
      exact k1
    · exact h.none.elim
  · obtain ⟨ti, h1, h⟩ := h.opt
    split at h
    · next el hk =>
      obtain ⟨c1, e1, r1⟩ := hx.inv (by simp)
      obtain ⟨c2, e2, r2⟩ := hy.inv (by simp)
      subst e1 e2
      cases r1; cases r2
      have hu := uptr (hTT _ _ h1) hk
      obtain ⟨u, k1, k2⟩ := eqOp_run (P := P) (w := w) (T := T) (x := .pointer none) (y := .pointer none) (r := true) (run_eq_ptr hu _ w 9999) (fun op' ho b hb => by
        rcases ho with rfl | rfl <;> simp [binOp, hb]) h
      refine ⟨u, ?_, k2 _ _ _⟩
      simp only [shape, AV.isAgg, cond_false, List.headD_cons]
      rw [Sem.run_bind, show (eqGuard op T X Y (.pointer none) (.pointer none)).run P w = .ok () w by unfold eqGuard; cases op <;> simp]
      exact k1
    · exact h.none.elim
  · next nm =>
    obtain ⟨ti, h1, h⟩ := h.opt
    split at h
    · next k0 v0 hk =>
      obtain ⟨c1, e1, r1⟩ := hx.inv (by simp)
      obtain ⟨c2, e2, r2⟩ := hy.inv (by simp)
      subst e1 e2
      cases r1; cases r2
      have hu := (hTT _ _ h1).umap hk
      obtain ⟨u, k1, k2⟩ := eqOp_run (P := P) (w := w) (T := T) (x := .map (some (ρ nm))) (y := .map none) (r := false) (run_eq_map hu _ w 9999) (fun op' ho b hb => by
        rcases ho with rfl | rfl <;> simp [binOp, hb]) h
      refine ⟨u, ?_, k2 _ _ _⟩
      simp only [shape, AV.isAgg, cond_false, List.headD_cons]
      rw [Sem.run_bind, show (eqGuard op T X Y (.map (some (ρ nm))) (.map none)).run P w = .ok () w by unfold eqGuard; cases op <;> simp]
      exact k1
    · exact h.none.elim
  · obtain ⟨ti, h1, h⟩ := h.opt
    split at h
    · next k0 v0 hk =>
      obtain ⟨c1, e1, r1⟩ := hx.inv (by simp)
      obtain ⟨c2, e2, r2⟩ := hy.inv (by simp)
      subst e1 e2
      cases r1; cases r2
      have hu := (hTT _ _ h1).umap hk
      obtain ⟨u, k1, k2⟩ := eqOp_run (P := P) (w := w) (T := T) (x := .map none) (y := .map none) (r := true) (run_eq_map hu _ w 9999) (fun op' ho b hb => by
        rcases ho with rfl | rfl <;> simp [binOp, hb]) h
      refine ⟨u, ?_, k2 _ _ _⟩
      simp only [shape, AV.isAgg, cond_false, List.headD_cons]
      rw [Sem.run_bind, show (eqGuard op T X Y (.map none) (.map none)).run P w = .ok () w by unfold eqGuard; cases op <;> simp]
      exact k1
    · exact h.none.elim
  · next t0 v0 =>
    obtain ⟨ti, h1, h⟩ := h.opt
    split at h
    · next hk =>
      obtain ⟨c1, e1, r1⟩ := hx.inv (by simp)
      obtain ⟨c2, e2, r2⟩ := hy.inv (by simp)
      subst e1 e2
      cases r2
      cases r1 with
      | ifc hr =>
      rename_i cs0
      obtain ⟨ms, hu⟩ := (hTT _ _ h1).uifc hk
      obtain ⟨u, k1, k2⟩ := eqOp_run (P := P) (w := w) (T := T) (x := .iface t0 (shape v0 cs0)) (y := .nilIface) (r := false) (run_eq_ifc hu _ _ w 9999) (fun op' ho b hb => by
        rcases ho with rfl | rfl <;> simp [binOp, hb]) h
      refine ⟨u, ?_, k2 _ _ _⟩
      rw [show shape (.ifc t0 v0) [Value.iface t0 (shape v0 cs0)] = .iface t0 (shape v0 cs0) from rfl, show shape .nili [Value.nilIface] = .nilIface from rfl]
      rw [Sem.run_bind, show (eqGuard op T X Y (.iface t0 (shape v0 cs0)) .nilIface).run P w = .ok () w by unfold eqGuard; cases op <;> simp]
      exact k1
    · exact h.none.elim
  · exact binF_run hx hy X Y T h
theorem binI_run (hTT : TT P tt) {T : Nat} {op : BinOp} {a b v : AV} {x y : Value} {ρ : Nat → Nat} {S : Nat → Prop} {w : World} {N : Nat → Prop} (hx : RV ρ S w N a x) (hy : RV ρ S w N b y) (X Y : Operand) (h : Ok (binI tt T op Y a b) v) :
    ∃ u, (do eqGuard op T X Y x y; binOp op T x y : Sem Value).run P w = .ok u w ∧ RV ρ S w N v u := by
  unfold binI at h
  split at h
  · split at h
    · next c =>
      obtain ⟨ti, h1, h⟩ := h.opt
      split at h
      · next hk =>
        obtain ⟨c1, e1, r1⟩ := hx.inv (by simp)
        obtain ⟨c2, e2, r2⟩ := hy.inv (by simp)
        subst e1 e2
        cases r1; cases r2
        obtain ⟨ms, hu⟩ := (hTT _ _ h1).uifc hk
        obtain ⟨u, k1, k2⟩ := eqOp_run (P := P) (w := w) (T := T) (x := .nilIface) (y := .nilIface) (r := true) (run_eq_nifc hu w 9999) (fun op' ho b hb => by
          rcases ho with rfl | rfl <;> simp [binOp, hb]) h
        refine ⟨u, ?_, k2 _ _ _⟩
        simp only [shape, AV.isAgg, cond_false, List.headD_cons]
        rw [Sem.run_bind, show (eqGuard op T X (.const c) .nilIface .nilIface).run P w = .ok () w by unfold eqGuard; cases op <;> simp]
        exact k1
      · exact h.none.elim
    · exact h.none.elim
  · exact binG_run hTT hx hy X Y h

theorem sound_binG (hTT : TT P tt) {op : BinOp} {T yt : TypeId} {x y : Operand} {a b v : AV} (hx : ev G t x = some a) (hy : ev G t y = some b) (h : Ok (binI tt T op y a b) v) : OpSound P G t e nb ⟨dst, .binOp op T x y yt, ty, pos, after, gd⟩ v [] := by
  intro B ρ D t' e' c w ht _ hg _
  obtain ⟨u, hu, hr⟩ := binI_run hTT (ev_sound hg ht hx) (ev_sound hg ht hy) x y h
  refine .value (x := u) (w' := w) ?_ (Post.pure hg.mem hr)
  simp only [execOp]
  rw [Sem.run_bind, hu]
  rfl

/-! ### Lengths, and the lesser or the greater of two -/

def lenF (kd : Kd) (x : AV) : Q AV :=
  match kd, x with
  | .slice _, .sl _ _ _ len => ret (.int .i64 len)
  | .slice _, .nils => ret (.int .i64 0)
  | .slice _, .lstI _ xs => ret (.int .i64 xs.length)
  | .slice _, .lstS ss => ret (.int .i64 ss.length)
  | .slice _, .lst _ l => ret (.int .i64 l.length)
  | .str, .str s => ret (.int .i64 s.size)
  | _, _ => none

theorem lenF_run {T : Nat} {ti : TI} (hT : TyOK P T ti) {x v : AV} {u : Value} {ρ : Nat → Nat} {S : Nat → Prop} {w : World} {N : Nat → Prop} (hx : RV ρ S w N x u) (h : Ok (lenF ti.kd x) v) (ts : Array TypeId) (hts : ts[0]? = some T) (cs : Array Bool) (U : TypeId) :
    ∃ r, (builtin .len ts U cs #[u]).run P w = .ok (.value r) w ∧ RV ρ S w N v r := by
  have sl : ∀ (el : Nat) (a : Option Addr) (n c : Nat), ti.kd = .slice el → (builtin .len ts U cs #[.slice a n c]).run P w = .ok (.value (.int .i64 n)) w := by
    intro el a n c hk
    simp [builtin, Builtin.len_, hts, run_underlying (hT.uslice hk), goInt]
  have st : ∀ (s : ByteArray), ti.kd = .str → (builtin .len ts U cs #[.string s]).run P w = .ok (.value (.int .i64 s.size)) w := by
    intro s hk
    simp [builtin, Builtin.len_, hts, run_underlying (hT.ustr hk), goInt]
  cases hk : ti.kd <;> cases x <;> simp only [lenF, hk] at h <;> first | exact h.none.elim | skip
  all_goals
    have := h.ret; subst this
    obtain ⟨c1, e1, r1⟩ := hx.inv (by simp)
    subst e1
    cases r1
    first | exact ⟨_, sl _ _ _ _ hk, .ofInt⟩ | exact ⟨_, st _ hk, .ofInt⟩
end
end Sx

/- Maps from numbers to bools: made, looked up, added to. -/
set_option linter.unusedVariables false
set_option linter.unusedSimpArgs false
namespace Sx
open Go

/-- What a map of strings has of one. -/
def kvGet : List (ByteArray × Kv) → ByteArray → Option Kv
  | [], _ => none
  | (k, v) :: l, s => if (k == s) = true then some v else kvGet l s
def kvPut : List (ByteArray × Kv) → ByteArray → Kv → List (ByteArray × Kv)
  | [], s, x => [(s, x)]
  | (k, v) :: l, s, x => if (k == s) = true then (s, x) :: l else (k, v) :: kvPut l s x
def kvOr (te : TI) : Option Kv → AV
  | some v => v.av
  | none => te.z
def kvOf : AV → Option Kv
  | .str s => some (.str s)
  | .bool b => some (.bool b)
  | _ => none
def mkmQ (tt : Nat → Option TI) (ti : TI) : Q Mp :=
  match ti.kd with
  | .map kt _ => opt (tt kt) fun tk => match tk.kd with
    | .str => ret (.strs [])
    | _ => ret (.ints [])
  | _ => none
theorem mkmQ_nil {tt : Nat → Option TI} {ti : TI} {m : Mp} (h : Ok (mkmQ tt ti) m) : m.ents = [] := by
  unfold mkmQ at h
  split at h
  · obtain ⟨tk, _, h⟩ := h.opt
    split at h <;> (cases h.ret; rfl)
  · exact h.none.elim
def lkpQ (tt : Nat → Option TI) (e : Ents) (ti : TI) (m k : AV) : Q AV :=
  match ti.kd, m, k with
  | .map kt et, .mp nm, .int .i64 n => opt (tt kt) fun tk => opt (tt et) fun te => opt (lk e nm) fun z =>
    match tk.kd, te.z, z with
    | .int .i64, .bool false, .mset (.ints s) => ret (.bool (s.contains n))
    | _, _, _ => none
  | .map kt et, .mp nm, .str n => opt (tt kt) fun tk => opt (tt et) fun te => opt (lk e nm) fun z =>
    match tk.kd, z with
    | .str, .mset (.strs l) => ret (kvOr te (kvGet l n))
    | _, _ => none
  | _, _, _ => none
def lkoQ (tt : Nat → Option TI) (e : Ents) (ti : TI) (m k : AV) : Q AV :=
  match ti.kd, m, k with
  | .map kt et, .mp nm, .str n => opt (tt kt) fun tk => opt (tt et) fun te => opt (lk e nm) fun z =>
    match tk.kd, z with
    | .str, .mset (.strs l) => req ((kvOr te (kvGet l n)).isTup = false) (ret (.tup [kvOr te (kvGet l n), .bool (kvGet l n).isSome]))
    | _, _ => none
  | _, _, _ => none
def mupQ (tt : Nat → Option TI) (e : Ents) (ti : TI) (m k v : AV) : Q Del :=
  match ti.kd, m, k with
  | .map kt _, .mp nm, .int .i64 n => opt (tt kt) fun tk => opt (lk e nm) fun z =>
    match tk.kd, z, v with
    | .int .i64, .mset (.ints s), .bool true => req (s.contains n = false) (ret [(nm, some (.mset (.ints (s ++ [n]))))])
    | _, _, _ => none
  | .map kt _, .mp nm, .str n => opt (tt kt) fun tk => opt (lk e nm) fun z => opt (kvOf v) fun x =>
    match tk.kd, z with
    | .str, .mset (.strs l) => ret [(nm, some (.mset (.strs (kvPut l n x))))]
    | _, _ => none
  | _, _, _ => none

theorem find_mset (n : Int) : ∀ (L : List MapEntry) (s : List Int) (i : Nat), L.map (fun x : MapEntry => (x.key, x.val)) = s.map (fun k => (Value.int .i64 k, Value.bool true)) →
    (s.contains n = true → ∃ j, Instr.findNow (.int .i64) (.int .i64 n) L i = some (some (j, .bool true))) ∧ (s.contains n = false → Instr.findNow (.int .i64) (.int .i64 n) L i = some none)
  | [], [], i, _ => ⟨fun h => by simp at h, fun _ => rfl⟩
  | [], _ :: _, i, h => by simp at h
  | _ :: _, [], i, h => by simp at h
  | x :: L, k :: s, i, h => by
    simp only [List.map_cons, List.cons.injEq, Prod.mk.injEq] at h
    obtain ⟨⟨h1, h2⟩, h3⟩ := h
    obtain ⟨ih1, ih2⟩ := find_mset n L s (i + 1) h3
    by_cases hq : n = k
    · subst hq
      exact ⟨fun _ => ⟨i, by simp [Instr.findNow, Instr.sameNow, h1, h2]⟩, fun hc => by simp at hc⟩
    · have hb : (n == k) = false := by simpa using hq
      have e : Instr.findNow (.int .i64) (.int .i64 n) (x :: L) i = Instr.findNow (.int .i64) (.int .i64 n) L (i + 1) := by
        simp [Instr.findNow, Instr.sameNow, h1, hb]
      rw [e, List.contains_cons, hb, Bool.false_or]
      exact ⟨ih1, ih2⟩

theorem find_strs (s : ByteArray) : ∀ (L : List MapEntry) (l : List (ByteArray × Kv)) (i : Nat), L.map (fun x : MapEntry => (x.key, x.val)) = l.map (fun p => (Value.string p.1, p.2.val)) →
    (∀ v, kvGet l s = some v → ∃ j, Instr.findNow .string (.string s) L i = some (some (i + j, v.val)) ∧ j < L.length ∧ (L[j]?).map (·.key) = some (.string s) ∧
      (kvPut l s v = l → True) ∧ ∀ x : Kv, (L.modify j fun e => { e with key := .string s, val := x.val }).map (fun x : MapEntry => (x.key, x.val)) = (kvPut l s x).map (fun p => (Value.string p.1, p.2.val))) ∧
    (kvGet l s = none → Instr.findNow .string (.string s) L i = some none ∧ ∀ x, kvPut l s x = l ++ [(s, x)])
  | [], [], i, _ => ⟨fun v h => (by cases h), fun _ => ⟨rfl, fun _ => rfl⟩⟩
  | [], _ :: _, i, h => by simp at h
  | _ :: _, [], i, h => by simp at h
  | y :: L, (k, v) :: l, i, h => by
    simp only [List.map_cons, List.cons.injEq, Prod.mk.injEq] at h
    obtain ⟨⟨h1, h2⟩, h3⟩ := h
    obtain ⟨ih1, ih2⟩ := find_strs s L l (i + 1) h3
    by_cases hq : k = s
    · subst hq
      have hb : (k == k) = true := (MapKept.bytes_beq k k).2 rfl
      refine ⟨fun u hu => ?_, fun hn => ?_⟩
      · simp only [kvGet, hb, if_true, Option.some.injEq] at hu
        subst hu
        exact ⟨0, by simp [Instr.findNow, Instr.sameNow, h1, h2, hb], by simp, by simp [h1], fun _ => trivial, fun x => by simp [kvPut, hb, h3]⟩
      · simp [kvGet, hb] at hn
    · have hb : ¬ (k == s) = true := fun q => hq ((MapKept.bytes_beq k s).1 q)
      have hb' : ¬ (s == k) = true := fun q => hq ((MapKept.bytes_beq s k).1 q).symm
      have e : Instr.findNow .string (.string s) (y :: L) i = Instr.findNow .string (.string s) L (i + 1) := by
        simp [Instr.findNow, Instr.sameNow, h1, hb']
      refine ⟨fun u hu => ?_, fun hn => ?_⟩
      · simp only [kvGet, if_neg hb] at hu
        obtain ⟨j, f1, f2, f3, _, f4⟩ := ih1 u hu
        refine ⟨j + 1, by rw [e, f1]; simp; omega, by simp; omega, by simpa using f3, fun _ => trivial, fun x => ?_⟩
        have := f4 x
        simp [kvPut, hb, h1, h2, this]
      · simp only [kvGet, if_neg hb] at hn
        obtain ⟨f1, f2⟩ := ih2 hn
        exact ⟨by rw [e, f1], fun x => by simp [kvPut, hb, f2]⟩

theorem stamps_push {es : Array MapEntry} {clock : Nat} {k v : Value} (h : clock = es.size ∧ ∀ (j : Nat) e, es[j]? = some e → e.born = j) : clock + 1 = (es.push ⟨k, v, clock⟩).size ∧ ∀ (j : Nat) e, (es.push ⟨k, v, clock⟩)[j]? = some e → e.born = j := by
  refine ⟨by simp [h.1], fun j e he => ?_⟩
  rw [Array.getElem?_push] at he
  split at he
  · next hq => cases he; rw [hq]; exact h.1
  · exact h.2 j e he
theorem stamps_modify {es : Array MapEntry} {clock i : Nat} {f : MapEntry → MapEntry} (hf : ∀ e, (f e).born = e.born) (h : clock = es.size ∧ ∀ (j : Nat) e, es[j]? = some e → e.born = j) : clock = (es.modify i f).size ∧ ∀ (j : Nat) e, (es.modify i f)[j]? = some e → e.born = j := by
  refine ⟨by simp [h.1], fun j e he => ?_⟩
  rw [Array.getElem?_modify] at he
  split at he
  · rw [Option.map_eq_some_iff] at he
    obtain ⟨y, hy, rfl⟩ := he
    rw [hf]; exact h.2 j y hy
  · exact h.2 j e he
/-- Where a map of strings has one. -/
def kvIdx : List (ByteArray × Kv) → ByteArray → Option Nat
  | [], _ => none
  | (k, _) :: l, s => if (k == s) = true then some 0 else (kvIdx l s).map (· + 1)
def kvSet : List (ByteArray × Kv) → Nat → Kv → List (ByteArray × Kv)
  | [], _, _ => []
  | (k, _) :: l, 0, x => (k, x) :: l
  | p :: l, j + 1, x => p :: kvSet l j x
theorem kvSet_last (k : ByteArray) (z x : Kv) : ∀ l : List (ByteArray × Kv), kvSet (l ++ [(k, z)]) l.length x = l ++ [(k, x)]
  | [] => rfl
  | p :: l => by simp [kvSet, kvSet_last k z x l]
theorem kvIdx_none {s : ByteArray} : ∀ {l : List (ByteArray × Kv)}, kvIdx l s = none ↔ kvGet l s = none
  | [] => by simp [kvIdx, kvGet]
  | (k, v) :: l => by
    by_cases h : (k == s) = true
    · simp [kvIdx, kvGet, h]
    · simp [kvIdx, kvGet, h, kvIdx_none (l := l)]
theorem find_idx (s : ByteArray) : ∀ (L : List MapEntry) (l : List (ByteArray × Kv)) (i : Nat), L.map (fun x : MapEntry => (x.key, x.val)) = l.map (fun p => (Value.string p.1, p.2.val)) →
    (∀ j, kvIdx l s = some j → ∃ v, l[j]? = some (s, v) ∧ Instr.findNow .string (.string s) L i = some (some (i + j, v.val)))
  | [], [], i, _ => fun j h => by cases h
  | [], _ :: _, i, h => by simp at h
  | _ :: _, [], i, h => by simp at h
  | y :: L, (k, v) :: l, i, h => by
    simp only [List.map_cons, List.cons.injEq, Prod.mk.injEq] at h
    obtain ⟨⟨h1, h2⟩, h3⟩ := h
    intro j hj
    by_cases hq : k = s
    · subst hq
      have hb : (k == k) = true := (MapKept.bytes_beq k k).2 rfl
      simp only [kvIdx, hb, if_true, Option.some.injEq] at hj
      subst hj
      exact ⟨v, by simp, by simp [Instr.findNow, Instr.sameNow, h1, h2, hb]⟩
    · have hb : ¬ (k == s) = true := fun q => hq ((MapKept.bytes_beq k s).1 q)
      have hb' : ¬ (s == k) = true := fun q => hq ((MapKept.bytes_beq s k).1 q).symm
      simp only [kvIdx, if_neg hb, Option.map_eq_some_iff] at hj
      obtain ⟨j', hj', rfl⟩ := hj
      obtain ⟨u, f1, f2⟩ := find_idx s L l (i + 1) h3 j' hj'
      have e : Instr.findNow .string (.string s) (y :: L) i = Instr.findNow .string (.string s) L (i + 1) := by
        simp [Instr.findNow, Instr.sameNow, h1, hb']
      exact ⟨u, by simpa using f1, by rw [e, f2]; simp; omega⟩
theorem kvSet_map (x : Kv) : ∀ (L : List MapEntry) (l : List (ByteArray × Kv)) (j : Nat), L.map (fun x : MapEntry => (x.key, x.val)) = l.map (fun p => (Value.string p.1, p.2.val)) →
    (L.modify j fun e => { e with val := x.val }).map (fun x : MapEntry => (x.key, x.val)) = (kvSet l j x).map (fun p => (Value.string p.1, p.2.val))
  | [], [], j, _ => by simp [kvSet]
  | [], _ :: _, i, h => by simp at h
  | _ :: _, [], i, h => by simp at h
  | y :: L, (k, v) :: l, 0, h => by
    simp only [List.map_cons, List.cons.injEq, Prod.mk.injEq] at h
    simp [kvSet, h.1.1, h.2]
  | y :: L, (k, v) :: l, j + 1, h => by
    simp only [List.map_cons, List.cons.injEq, Prod.mk.injEq] at h
    simp [kvSet, h.1.1, h.1.2, kvSet_map x L l j h.2]
def mpeQ (tt : Nat → Option TI) (e : Ents) (ti : TI) (m k : AV) : Q (AV × Del) :=
  match ti.kd, m, k with
  | .map kt et, .mp nm, .str n => opt (tt kt) fun tk => opt (tt et) fun te => opt (lk e nm) fun z => opt (kvOf te.z) fun z0 =>
    match tk.kd, z with
    | .str, .mset (.strs l) => req (kvIdx l n = none) (ret (.tup [z0.av, .int .i64 l.length], [(nm, some (.mset (.strs (l ++ [(n, z0)]))))]))
    | _, _ => none
  | _, _, _ => none
def mesQ (tt : Nat → Option TI) (e : Ents) (ti : TI) (m k v : AV) : Q Del :=
  match m, k with
  | .mp nm, .int .i64 j => opt (lk e nm) fun z => opt (kvOf v) fun x =>
    match z with
    | .mset (.strs l) => req (0 ≤ j ∧ j.toNat < l.length) (ret [(nm, some (.mset (.strs (kvSet l j.toNat x))))])
    | _ => none
  | _, _ => none

section
variable {P : Program} {tt : Nat → Option TI} {G : Nat → Option AV} {t : Tms} {e : Ents} {nb : Nat} {dst : Option Tmp} {ty : TypeId} {pos : String} {after : Array Edge} {gd : Option (Nat × Bool)}

theorem sound_mkmap {T : Nat} {m : Mp} (hm : m.ents = []) : OpSound P G t e nb ⟨dst, .makeMap T none, ty, pos, after, gd⟩ (.mp nb) [(nb, some (.mset m))] := by
  intro B ρ D t' e' a w _ _ hg hD
  obtain ⟨ρ', q1, q2, q3⟩ := hg.mem.alloc nb (hD nb (Nat.le_refl _) (by omega)) (.map #[] 0) (.mset m) (e' := ap [(nb, some (.mset m))] e') (fun q => lk_up e' nb (some (.mset m)) q)
    (fun ρ' D' hag hevo => .mset (es := #[]) (clock := 0) ⟨by rw [hm]; rfl, rfl, by simp⟩ (alloc_new w _))
  refine .value (x := .map (some w.heap.size)) (w' := w.alloc (.map #[] 0)) ?_ ⟨ρ', _, fun n hn => ?_, ?_, q2, q3⟩
  · simp [execOp, Instr.makeMap, newObj]
    rfl
  · rcases hn with hn | rfl
    · exact .inl hn
    · exact .inr ⟨Nat.le_refl _, by omega⟩
  · rw [← q1]
    exact .one (cs := [_]) (.mp (.inr rfl))

theorem lkp_strs (hTT : TT P tt) {T kt et nm : Nat} {ti tk te : TI} (hT : TyOK P T ti) {x y : Operand} {n : ByteArray} {l : List (ByteArray × Kv)} (hk : ti.kd = .map kt et) (h1 : tt kt = some tk) (h2 : tt et = some te) (hk1 : tk.kd = .str)
    {B : Nat → Prop} {ρ : Nat → Nat} {D : Nat → Prop} {t' : Tms} {e' : Ents} {a : Act} {w : World} (hg : Good B G ρ D t' e' a w) (ht : Le t t') (hx : ev G t x = some (.mp nm)) (hy : ev G t y = some (.str n)) (hz : lk e' nm = some (.mset (.strs l))) :
    ∃ v, (∀ ok, (Instr.lookup T (a.eval x) (a.eval y) ok).run P w = .ok (if ok then .tuple #[v, .bool (kvGet l n).isSome] else v) w) ∧ ∃ cs, RC ρ (Stab B ρ e' w) w D (kvOr te (kvGet l n)) cs ∧ v = shape (kvOr te (kvGet l n)) cs := by
  have hent := (hg.mem.en nm _ hz).2
  obtain ⟨cs, hm, hr⟩ := (ev_sound hg ht hx).inv (by simp)
  obtain ⟨ck, hkv, hrk⟩ := (ev_sound hg ht hy).inv (by simp)
  cases hr with
  | mp hn =>
  cases hrk
  have hm' : a.eval x = .map (some (ρ nm)) := hm
  have hkv : a.eval y = .string n := hkv
  cases hent with
  | mset hs hb =>
  rename_i es clock
  have uk := (hTT _ _ h1).ustr hk1
  have hzero := (hTT _ _ h2).run_zero (w := w)
  have hck : (Instr.checkKey es.isEmpty 10000 kt (.string n)).run P w = .ok () w := MapKept.run_checkKey uk (show MapKept.IsKey .string (.string n) from trivial) _ 9999
  obtain ⟨f1, f2⟩ := find_strs n es.toList l 0 hs.1
  cases hc : kvGet l n with
  | some v =>
    obtain ⟨j, f1, _⟩ := f1 v hc
    refine ⟨v.val, fun ok => ?_, [v.val], ?_, ?_⟩
    · cases ok <;> simp [Instr.lookup, hm', hkv, run_underlying (hT.umap hk), MapKept.run_getObj_map hb, hck, MapKept.run_findKey uk f1]
    · cases v
      · exact .int
      · exact .str
      · exact .bool
    · cases v <;> rfl
  | none =>
    obtain ⟨f2, _⟩ := f2 hc
    refine ⟨shape te.z (conc te.z), fun ok => ?_, conc te.z, RC.conc ρ _ w D te.z (hTT _ _ h2).pl, rfl⟩
    cases ok <;> simp [Instr.lookup, hm', hkv, run_underlying (hT.umap hk), MapKept.run_getObj_map hb, hck, MapKept.run_findKey uk f2, hzero]

theorem sound_lkp (hTT : TT P tt) {T : Nat} {ti : TI} (hT : TyOK P T ti) {x y : Operand} {m k v : AV} (hx : ev G t x = some m) (hy : ev G t y = some k) (h : Ok (lkpQ tt e ti m k) v) :
    OpSound P G t e nb ⟨dst, .lookup T x y false, ty, pos, after, gd⟩ v [] := by
  intro B ρ D t' e' a w ht hle hg hD
  unfold lkpQ at h
  split at h
  · next kt et nm n hk =>
    have hh := h.opt
    clear h
    obtain ⟨tk, h1, h⟩ := hh
    have hh := h.opt
    clear h
    obtain ⟨te, h2, h⟩ := hh
    have hh := h.opt
    clear h
    obtain ⟨z, hz, h⟩ := hh
    split at h
    · next s hk1 hk2 =>
      cases h.ret
      have hent := (hg.mem.en nm _ (hle _ _ hz)).2
      obtain ⟨cs, hm, hr⟩ := (ev_sound hg ht hx).inv (by simp)
      have hkv := (ev_sound hg ht hy).int_inv
      cases hr with
      | mp hn =>
      have hm' : a.eval x = .map (some (ρ nm)) := hm
      cases hent with
      | mset hs hb =>
      rename_i es clock
      have uk := (hTT _ _ h1).uint hk1
      have hzero := (hTT _ _ h2).run_zero (w := w)
      rw [hk2] at hzero
      have hzero' : (zeroValue et).run P w = .ok (.bool false) w := hzero
      have hck : (Instr.checkKey es.isEmpty 10000 kt (.int .i64 n)).run P w = .ok () w := MapKept.run_checkKey uk (show MapKept.IsKey (.int .i64) (.int .i64 n) from rfl) _ 9999
      obtain ⟨f1, f2⟩ := find_mset n es.toList s 0 hs.1
      refine .value (x := .bool (s.contains n)) (w' := w) ?_ (Post.pure hg.mem .ofBool)
      cases hc : s.contains n with
      | true =>
        obtain ⟨j, f1⟩ := f1 hc
        simp [execOp, Instr.lookup, hm', hkv, run_underlying (hT.umap hk), MapKept.run_getObj_map hb, hck, MapKept.run_findKey uk f1]
      | false =>
        have f2 := f2 hc
        simp [execOp, Instr.lookup, hm', hkv, run_underlying (hT.umap hk), MapKept.run_getObj_map hb, hck, MapKept.run_findKey uk f2, hzero']
    · exact h.none.elim
  · next kt et nm n hk =>
    have hh := h.opt
    clear h
    obtain ⟨tk, h1, h⟩ := hh
    have hh := h.opt
    clear h
    obtain ⟨te, h2, h⟩ := hh
    have hh := h.opt
    clear h
    obtain ⟨z, hz, h⟩ := hh
    split at h
    · next l hk1 =>
      cases h.ret
      obtain ⟨v, hv, cs, hr, rfl⟩ := lkp_strs hTT hT hk h1 h2 hk1 hg ht hx hy (hle _ _ hz)
      exact .value (w' := w) (by simp [execOp, hv false]) (Post.pure hg.mem (.one hr))
    · exact h.none.elim
  · exact h.none.elim
theorem sound_lko (hTT : TT P tt) {T : Nat} {ti : TI} (hT : TyOK P T ti) {x y : Operand} {m k v : AV} (hx : ev G t x = some m) (hy : ev G t y = some k) (h : Ok (lkoQ tt e ti m k) v) :
    OpSound P G t e nb ⟨dst, .lookup T x y true, ty, pos, after, gd⟩ v [] := by
  intro B ρ D t' e' a w ht hle hg hD
  unfold lkoQ at h
  split at h
  · next kt et nm n hk =>
    have hh := h.opt
    clear h
    obtain ⟨tk, h1, h⟩ := hh
    have hh := h.opt
    clear h
    obtain ⟨te, h2, h⟩ := hh
    have hh := h.opt
    clear h
    obtain ⟨z, hz, h⟩ := hh
    split at h
    · next l hk1 =>
      have hh := h.req
      clear h
      obtain ⟨_, h⟩ := hh
      cases h.ret
      obtain ⟨v, hv, cs, hr, rfl⟩ := lkp_strs hTT hT hk h1 h2 hk1 hg ht hx hy (hle _ _ hz)
      refine .value (x := .tuple [shape (kvOr te (kvGet l n)) cs, .bool (kvGet l n).isSome].toArray) (w' := w) (by simp [execOp, hv true]) (Post.pure hg.mem (.tup rfl (fun i x hi => ?_)))
      match i, hi with
      | 0, hi => simp at hi; subst hi; exact ⟨cs, hr, rfl⟩
      | 1, hi => simp at hi; subst hi; exact ⟨_, .bool, rfl⟩
    · exact h.none.elim
  · exact h.none.elim


theorem sound_mup (hTT : TT P tt) {T : Nat} {ti : TI} (hT : TyOK P T ti) {x y u : Operand} {m k v : AV} {d : Del} (hx : ev G t x = some m) (hy : ev G t y = some k) (hu : ev G t u = some v) (h : Ok (mupQ tt e ti m k v) d) :
    OpSound P G t e nb ⟨dst, .mapUpdate T x y u, ty, pos, after, gd⟩ (.tup []) d := by
  intro B ρ D t' e' a w ht hle hg hD
  unfold mupQ at h
  split at h
  · next kt et nm n hk =>
    have hh := h.opt
    clear h
    obtain ⟨tk, h1, h⟩ := hh
    have hh := h.opt
    clear h
    obtain ⟨z, hz, h⟩ := hh
    split at h
    · next s hk1 =>
      have hh := h.req
      clear h
      obtain ⟨hc, h⟩ := hh
      cases h.ret
      have hze := hle _ _ hz
      have hent := (hg.mem.en nm _ hze).2
      obtain ⟨cs, hm, hr⟩ := (ev_sound hg ht hx).inv (by simp)
      have hkv := (ev_sound hg ht hy).int_inv
      have huv := (ev_sound hg ht hu).bool_inv
      cases hr with
      | mp hn =>
      have hm' : a.eval x = .map (some (ρ nm)) := hm
      cases hent with
      | mset hs hb =>
      rename_i es clock
      have uk := (hTT _ _ h1).uint hk1
      have hck : (Instr.checkKey false 10000 kt (.int .i64 n)).run P w = .ok () w := MapKept.run_checkKey uk (show MapKept.IsKey (.int .i64) (.int .i64 n) from rfl) _ 9999
      have f2 := (find_mset n es.toList s 0 hs.1).2 hc
      let o : Obj := .map (es.push ⟨.int .i64 n, .bool true, clock⟩) (clock + 1)
      let w' : World := { w with heap := w.heap.setIfInBounds (ρ nm) o }
      have hlt : ρ nm < w.heap.size := (Array.getElem?_eq_some_iff.1 hb).1
      have hb' : w'.heap[ρ nm]? = some o := by show (w.heap.setIfInBounds (ρ nm) o)[ρ nm]? = _; simp [Array.getElem?_setIfInBounds, hlt]
      obtain ⟨q1, q2⟩ := hg.mem.write (e' := ap [(nm, some (.mset (.ints (s ++ [n]))))] e') (w' := w') hze (fun q => lk_up e' nm (some (.mset (.ints (s ++ [n])))) q)
        (fun b hq => by show (w.heap.setIfInBounds (ρ nm) o)[b]? = _; rw [Array.getElem?_setIfInBounds, if_neg (fun g => hq g.symm)]) (by show (w.heap.setIfInBounds (ρ nm) o).size = _; simp) rfl rfl rfl
        (fun q hq => by obtain ⟨c1, T1, fr1, e1, _⟩ := hq; rw [e1] at hb; cases hb)
        (fun hevo => .mset (es := es.push ⟨.int .i64 n, .bool true, clock⟩) (clock := clock + 1) ⟨by simp [hs.1, Mp.ents], stamps_push hs.2⟩ hb')
      refine .skip (w' := w') ?_ ⟨ρ, D, fun _ h => .inl h, .unit, q1, q2⟩
      simp [execOp, Instr.mapUpdate, hm', hkv, huv, run_underlying (hT.umap hk), MapKept.run_getObj_map hb, hck, MapKept.run_findKey uk f2, MapKept.run_setObj_map _ hb]
      rfl
    · exact h.none.elim
  · next kt et nm n hk =>
    have hh := h.opt
    clear h
    obtain ⟨tk, h1, h⟩ := hh
    have hh := h.opt
    clear h
    obtain ⟨z, hz, h⟩ := hh
    have hh := h.opt
    clear h
    obtain ⟨x0, hx0, h⟩ := hh
    split at h
    · next l hk1 =>
      cases h.ret
      have hze := hle _ _ hz
      have hent := (hg.mem.en nm _ hze).2
      obtain ⟨cs, hm, hr⟩ := (ev_sound hg ht hx).inv (by simp)
      obtain ⟨ck, hkv, hrk⟩ := (ev_sound hg ht hy).inv (by simp)
      cases hr with
      | mp hn =>
      cases hrk
      have hm' : a.eval x = .map (some (ρ nm)) := hm
      have hkv : a.eval y = .string n := hkv
      have huv : a.eval u = x0.val := by
        have hv9 := ev_sound hg ht hu
        clear h
        cases v <;> simp only [kvOf, Option.some.injEq, reduceCtorEq] at hx0
        · subst hx0; exact hv9.bool_inv
        · subst hx0
          obtain ⟨c2, h2, h3⟩ := hv9.inv (by simp)
          cases h3; exact h2
      cases hent with
      | mset hs hb =>
      rename_i es clock
      have uk := (hTT _ _ h1).ustr hk1
      have hck : (Instr.checkKey false 10000 kt (.string n)).run P w = .ok () w := MapKept.run_checkKey uk (show MapKept.IsKey .string (.string n) from trivial) _ 9999
      obtain ⟨f1, f2⟩ := find_strs n es.toList l 0 hs.1
      -- the new block
      have fin : ∀ (es' : Array MapEntry) (clock' : Nat), es'.toList.map (fun x : MapEntry => (x.key, x.val)) = (Mp.strs (kvPut l n x0)).ents ∧ clock' = es'.size ∧ (∀ (j : Nat) e, es'[j]? = some e → e.born = j) →
          (Instr.mapUpdate T (a.eval x) (a.eval y) (a.eval u)).run P w = .ok () { w with heap := w.heap.setIfInBounds (ρ nm) (.map es' clock') } → Runs P ⟨dst, .mapUpdate T x y u, ty, pos, after, gd⟩ a w (Post B ρ D e' w nb (.tup []) [(nm, some (.mset (.strs (kvPut l n x0))))]) := by
        intro es' clock' hes hrun
        let w' : World := { w with heap := w.heap.setIfInBounds (ρ nm) (.map es' clock') }
        have hlt : ρ nm < w.heap.size := (Array.getElem?_eq_some_iff.1 hb).1
        have hb' : w'.heap[ρ nm]? = some (.map es' clock') := by show (w.heap.setIfInBounds (ρ nm) _)[ρ nm]? = _; simp [Array.getElem?_setIfInBounds, hlt]
        obtain ⟨q1, q2⟩ := hg.mem.write (e' := ap [(nm, some (.mset (.strs (kvPut l n x0))))] e') (w' := w') hze (fun q => lk_up e' nm (some (.mset (.strs (kvPut l n x0)))) q)
          (fun b hq => by show (w.heap.setIfInBounds (ρ nm) _)[b]? = _; rw [Array.getElem?_setIfInBounds, if_neg (fun g => hq g.symm)]) (by show (w.heap.setIfInBounds (ρ nm) _).size = _; simp) rfl rfl rfl
          (fun q hq => by obtain ⟨c1, T1, fr1, e1, _⟩ := hq; rw [e1] at hb; cases hb)
          (fun hevo => .mset hes hb')
        refine .skip (w' := w') ?_ ⟨ρ, D, fun _ h => .inl h, .unit, q1, q2⟩
        simp [execOp, hrun, w']
      cases hc : kvGet l n with
      | none =>
        obtain ⟨f2, f3⟩ := f2 hc
        refine fin (es.push ⟨.string n, x0.val, clock⟩) (clock + 1) ⟨by rw [f3 x0]; have hs1 := hs.1; simp only [Mp.ents] at hs1 ⊢; simp [hs1], stamps_push hs.2⟩ ?_
        simp [Instr.mapUpdate, hm', hkv, huv, run_underlying (hT.umap hk), MapKept.run_getObj_map hb, hck, MapKept.run_findKey uk f2, MapKept.run_setObj_map _ hb]
      | some v0 =>
        obtain ⟨j, f1, f4, f5, _, f6⟩ := f1 v0 hc
        refine fin (es.modify j fun e => { e with key := .string n, val := x0.val }) clock ⟨by rw [Mp.ents, ← f6 x0]; simp [Array.toList_modify], stamps_modify (fun _ => rfl) hs.2⟩ ?_
        have hj : (es[j]?).map (·.key) = some (.string n) := by simpa using f5
        have hks : (Instr.keyThatStays (.string n) (.string n)).run P w = .ok (.string n) w := by
          have : (n == n) = true := (MapKept.bytes_beq n n).2 rfl
          simp [Instr.keyThatStays, Instr.sameBits, this]
        rw [Nat.zero_add] at f1
        simp [Instr.mapUpdate, hm', hkv, huv, run_underlying (hT.umap hk), MapKept.run_getObj_map hb, hck, MapKept.run_findKey uk f1, hj, hks, MapKept.run_setObj_map _ hb]
    · exact h.none.elim
  · exact h.none.elim

/-- A map's block is written anew. -/
theorem mset_write {B : Nat → Prop} {ρ : Nat → Nat} {D : Nat → Prop} {t' : Tms} {e' : Ents} {a : Act} {w : World} (hg : Good B G ρ D t' e' a w) {nm : Nat} {l l' : Mp} {es es' : Array MapEntry} {clock clock' : Nat} (hz : lk e' nm = some (.mset l)) (hb : w.heap[ρ nm]? = some (Obj.map es clock))
    (hs : es'.toList.map (fun x : MapEntry => (x.key, x.val)) = l'.ents ∧ clock' = es'.size ∧ ∀ (j : Nat) e, es'[j]? = some e → e.born = j) (nb : Nat) {v : AV} {x : Value} (hv : ∀ S N w, RV ρ S w N v x) :
    Post B ρ D e' w nb v [(nm, some (.mset l'))] x { w with heap := w.heap.setIfInBounds (ρ nm) (.map es' clock') } := by
  have hlt : ρ nm < w.heap.size := (Array.getElem?_eq_some_iff.1 hb).1
  let w' : World := { w with heap := w.heap.setIfInBounds (ρ nm) (.map es' clock') }
  have hb' : w'.heap[ρ nm]? = some (.map es' clock') := by show (w.heap.setIfInBounds (ρ nm) _)[ρ nm]? = _; simp [Array.getElem?_setIfInBounds, hlt]
  obtain ⟨q1, q2⟩ := hg.mem.write (e' := ap [(nm, some (.mset l'))] e') (w' := w') hz (fun q => lk_up e' nm (some (.mset l')) q)
    (fun b hq => by show (w.heap.setIfInBounds (ρ nm) _)[b]? = _; rw [Array.getElem?_setIfInBounds, if_neg (fun g => hq g.symm)]) (by show (w.heap.setIfInBounds (ρ nm) _).size = _; simp) rfl rfl rfl
    (fun q hq => by obtain ⟨c1, T1, fr1, e1, _⟩ := hq; rw [e1] at hb; cases hb)
    (fun hevo => .mset hs hb')
  exact ⟨ρ, D, fun _ h => .inl h, hv _ _ _, q1, q2⟩
theorem sound_mpe (hTT : TT P tt) {T : Nat} {ti : TI} (hT : TyOK P T ti) {x y : Operand} {m k v : AV} {d : Del} (hx : ev G t x = some m) (hy : ev G t y = some k) (h : Ok (mpeQ tt e ti m k) (v, d)) :
    OpSound P G t e nb ⟨dst, .mapEntry T x y, ty, pos, after, gd⟩ v d := by
  intro B ρ D t' e' a w ht hle hg hD
  unfold mpeQ at h
  split at h
  · next kt et nm n hk =>
    have hh := h.opt
    clear h
    obtain ⟨tk, h1, h⟩ := hh
    have hh := h.opt
    clear h
    obtain ⟨te, h2, h⟩ := hh
    have hh := h.opt
    clear h
    obtain ⟨z, hz, h⟩ := hh
    have hh := h.opt
    clear h
    obtain ⟨z0, hz0, h⟩ := hh
    split at h
    · next l hk1 =>
      have hh := h.req
      clear h
      obtain ⟨hno, h⟩ := hh
      cases h.ret
      have hze := hle _ _ hz
      have hent := (hg.mem.en nm _ hze).2
      obtain ⟨cs, hm, hr⟩ := (ev_sound hg ht hx).inv (by simp)
      obtain ⟨ck, hkv, hrk⟩ := (ev_sound hg ht hy).inv (by simp)
      cases hr with
      | mp hn =>
      cases hrk
      have hm' : a.eval x = .map (some (ρ nm)) := hm
      have hkv : a.eval y = .string n := hkv
      cases hent with
      | mset hs hb =>
      rename_i es clock
      have uk := (hTT _ _ h1).ustr hk1
      have hzero := (hTT _ _ h2).run_zero (w := w)
      have hzv : shape te.z (conc te.z) = z0.val := by
        generalize te.z = q at hz0
        cases q <;> simp only [kvOf, Option.some.injEq, reduceCtorEq] at hz0 <;> (subst hz0; rfl)
      rw [hzv] at hzero
      have hck : (Instr.checkKey false 10000 kt (.string n)).run P w = .ok () w := MapKept.run_checkKey uk (show MapKept.IsKey .string (.string n) from trivial) _ 9999
      obtain ⟨f2, _⟩ := (find_strs n es.toList l 0 hs.1).2 (kvIdx_none.1 hno)
      have hlen : clock = l.length := by
        have := congrArg List.length hs.1
        simp [Mp.ents] at this
        rw [hs.2.1, this]
      refine .value (x := .tuple [z0.val, .int .i64 l.length].toArray) (w' := _) ?_ (mset_write (l' := .strs (l ++ [(n, z0)])) (es' := es.push ⟨.string n, z0.val, clock⟩) (clock' := clock + 1) hg hze hb ⟨by have hs1 := hs.1; simp only [Mp.ents] at hs1 ⊢; simp [hs1], stamps_push hs.2⟩ nb (fun S N w => .tup rfl (fun i y hi => ?_)))
      · simp [execOp, Instr.mapEntry, hm', hkv, run_underlying (hT.umap hk), MapKept.run_getObj_map hb, hck, MapKept.run_findKey uk f2, MapKept.run_setObj_map _ hb, hzero, goInt, hlen]
      · match i, hi with
        | 0, hi =>
          simp at hi; subst hi
          refine ⟨[z0.val], ?_, ?_⟩
          · cases z0
            · exact .int
            · exact .str
            · exact .bool
          · cases z0 <;> rfl
        | 1, hi => simp at hi; subst hi; exact ⟨_, .int, rfl⟩
    · exact h.none.elim
  · exact h.none.elim
theorem sound_mes (hTT : TT P tt) {T : Nat} {ti : TI} (hT : TyOK P T ti) {x y u : Operand} {m k v : AV} {d : Del} (hx : ev G t x = some m) (hy : ev G t y = some k) (hu : ev G t u = some v) (h : Ok (mesQ tt e ti m k v) d) :
    OpSound P G t e nb ⟨dst, .entryStore T x y u, ty, pos, after, gd⟩ (.tup []) d := by
  intro B ρ D t' e' a w ht hle hg hD
  unfold mesQ at h
  split at h
  · next nm j =>
    have hh := h.opt
    clear h
    obtain ⟨z, hz, h⟩ := hh
    have hh := h.opt
    clear h
    obtain ⟨x0, hx0, h⟩ := hh
    split at h
    · next l =>
      have hh := h.req
      clear h
      obtain ⟨⟨hj0, hj1⟩, h⟩ := hh
      cases h.ret
      have hze := hle _ _ hz
      have hent := (hg.mem.en nm _ hze).2
      obtain ⟨cs, hm, hr⟩ := (ev_sound hg ht hx).inv (by simp)
      have hkv := (ev_sound hg ht hy).int_inv
      have huv : a.eval u = x0.val := by
        have hv9 := ev_sound hg ht hu
        clear h
        cases v <;> simp only [kvOf, Option.some.injEq, reduceCtorEq] at hx0
        · subst hx0; exact hv9.bool_inv
        · subst hx0
          obtain ⟨c2, h2, h3⟩ := hv9.inv (by simp)
          cases h3; exact h2
      cases hr with
      | mp hn =>
      have hm' : a.eval x = .map (some (ρ nm)) := hm
      cases hent with
      | mset hs hb =>
      rename_i es clock
      have hlen : es.size = l.length := by
        have := congrArg List.length hs.1
        simpa [Mp.ents] using this
      obtain ⟨q, rfl⟩ := Int.eq_ofNat_of_zero_le hj0
      rw [Int.toNat_natCast] at hj1
      have hfi : es.findIdx? (fun e => (e.born : Int) == (q : Int)) = some q := by
        rw [Array.findIdx?_eq_some_iff_getElem]
        refine ⟨by omega, ?_, fun i hi => ?_⟩
        · have := hs.2.2 q _ (Array.getElem?_eq_getElem (by omega))
          simp [this]
        · have := hs.2.2 i _ (Array.getElem?_eq_getElem (by omega))
          simp [this]; omega
      refine .skip (w' := _) ?_ (mset_write (l' := .strs (kvSet l q x0)) (es' := es.modify q fun e => { e with val := x0.val }) (clock' := clock) hg hze hb ⟨by
        have hs1 := hs.1
        simp only [Mp.ents] at hs1 ⊢
        rw [Array.toList_modify]
        exact kvSet_map x0 _ _ q hs1, stamps_modify (fun _ => rfl) hs.2⟩ nb (fun S N w => .unit))
      simp [execOp, Instr.entryStore, hm', hkv, huv, MapKept.run_getObj_map hb, hfi, asInt, asIntOf, Result.andThen, MapKept.run_setObj_map _ hb]
    · exact h.none.elim
  · exact h.none.elim
end
end Sx

/- Rows that grow and are copied; strings and bytes. -/
set_option linter.unusedVariables false
set_option linter.unusedSimpArgs false
namespace Sx
open Go

def Row.len : Row → Nat
  | .ints _ xs => xs.length
  | .strs ss => ss.length
  | .avs _ l => l.length
def Row.sz : Row → Nat
  | .avs s _ => s
  | _ => 1
def Row.take (n : Nat) : Row → Row
  | .ints k xs => .ints k (xs.take n)
  | .strs ss => .strs (ss.take n)
  | .avs s l => .avs s (l.take n)
def Row.drop (n : Nat) : Row → Row
  | .ints k xs => .ints k (xs.drop n)
  | .strs ss => .strs (ss.drop n)
  | .avs s l => .avs s (l.drop n)
def Row.app : Row → Row → Option Row
  | .ints k xs, .ints k' ys => if k = k' then some (.ints k (xs ++ ys)) else none
  | .strs ss, .strs us => some (.strs (ss ++ us))
  | .avs s l, .avs s' l' => if s = s' then some (.avs s (l ++ l')) else none
  | _, _ => none

section
variable {ρ : Nat → Nat} {S : Nat → Prop} {w : World} {N : Nat → Prop}
theorem RowC.length {r : Row} {cs : List Value} (h : RowC ρ S w N r cs) : cs.length = r.len * r.sz := by
  induction h with
  | ints => simp [Row.len, Row.sz]
  | strs => simp [Row.len, Row.sz]
  | nil => simp [Row.len]
  | cons h1 hz _ ih => simp only [Row.len, Row.sz, List.length_append, List.length_cons] at *; rw [ih, hz, Nat.add_mul]; omega
theorem RowC.one {r : Row} {cs : List Value} (h : RowC ρ S w N r cs) : ∀ v ∈ cs, v.oneCell' = true := by
  induction h with
  | ints => intro v hv; rw [List.mem_map] at hv; obtain ⟨x, _, rfl⟩ := hv; rfl
  | strs => intro v hv; rw [List.mem_map] at hv; obtain ⟨x, _, rfl⟩ := hv; rfl
  | nil => intro v hv; cases hv
  | cons h1 _ _ ih => intro v hv; rcases List.mem_append.1 hv with h | h <;> first | exact h1.oneCell v h | exact ih v h
theorem RowC.take {r : Row} {cs : List Value} (h : RowC ρ S w N r cs) : ∀ n, RowC ρ S w N (r.take n) (cs.take (n * r.sz)) := by
  induction h with
  | ints => intro n; simp only [Row.take, Row.sz, Nat.mul_one, ← List.map_take]; exact .ints
  | strs => intro n; simp only [Row.take, Row.sz, Nat.mul_one, ← List.map_take]; exact .strs
  | nil => intro n; simp only [Row.take, List.take_nil]; exact .nil
  | @cons sz x l a b h1 hz _ ih =>
    intro n
    cases n with
    | zero => simp only [Row.take, List.take_zero, Nat.zero_mul]; exact .nil
    | succ n =>
      simp only [Row.take, Row.sz, List.take_succ_cons] at *
      have : (a ++ b).take ((n + 1) * sz) = a ++ b.take (n * sz) := by
        rw [List.take_append, List.take_of_length_le (by rw [hz, Nat.add_mul]; omega)]
        congr 2
        rw [hz, Nat.add_mul]; omega
      rw [this]
      exact .cons h1 hz (ih n)
theorem RowC.drop {r : Row} {cs : List Value} (h : RowC ρ S w N r cs) : ∀ n, RowC ρ S w N (r.drop n) (cs.drop (n * r.sz)) := by
  induction h with
  | ints => intro n; simp only [Row.drop, Row.sz, Nat.mul_one, ← List.map_drop]; exact .ints
  | strs => intro n; simp only [Row.drop, Row.sz, Nat.mul_one, ← List.map_drop]; exact .strs
  | nil => intro n; simp only [Row.drop, List.drop_nil]; exact .nil
  | @cons sz x l a b h1 hz h2 ih =>
    intro n
    cases n with
    | zero => simp only [Row.drop, List.drop_zero, Nat.zero_mul]; exact .cons h1 hz h2
    | succ n =>
      simp only [Row.drop, Row.sz, List.drop_succ_cons] at *
      have : (a ++ b).drop ((n + 1) * sz) = b.drop (n * sz) := by
        rw [List.drop_append, List.drop_of_length_le (by rw [hz, Nat.add_mul]; omega), List.nil_append]
        congr 1
        rw [hz, Nat.add_mul]; omega
      rw [this]
      exact ih n
theorem RowC.app {r s u : Row} {a b : List Value} (h : RowC ρ S w N r a) (hs : RowC ρ S w N s b) (hu : Row.app r s = some u) : RowC ρ S w N u (a ++ b) := by
  induction h generalizing u with
  | ints =>
    cases hs <;> simp only [Row.app] at hu <;> first | (cases hu; done) | skip
    split at hu
    · next hk => subst hk; cases hu; rw [← List.map_append]; exact .ints
    · cases hu
  | strs =>
    cases hs <;> simp only [Row.app] at hu <;> first | (cases hu; done) | skip
    cases hu; rw [← List.map_append]; exact .strs
  | nil =>
    cases s <;> simp only [Row.app] at hu <;> first | (cases hu; done) | skip
    split at hu
    · next hk => subst hk; cases hu; simpa using hs
    · cases hu
  | cons h1 hz _ ih =>
    cases s <;> simp only [Row.app] at hu <;> first | (cases hu; done) | skip
    split at hu
    · next hk =>
      subst hk; cases hu
      rw [List.append_assoc]
      exact .cons h1 hz (ih (by simp [Row.app]))
    · cases hu
theorem Row.app_len {r s u : Row} (hu : Row.app r s = some u) : u.len = r.len + s.len ∧ u.sz = r.sz ∧ s.sz = r.sz := by
  cases r <;> cases s <;> simp only [Row.app] at hu <;> first | (cases hu; done) | skip
  · split at hu
    · cases hu; simp [Row.len, Row.sz]
    · cases hu
  · cases hu; simp [Row.len, Row.sz]
  · split at hu
    · next hk => cases hu; simp [Row.len, Row.sz, hk]
    · cases hu
theorem Row.take_sz (r : Row) (n : Nat) : (r.take n).sz = r.sz := by cases r <;> rfl
theorem Row.drop_sz (r : Row) (n : Nat) : (r.drop n).sz = r.sz := by cases r <;> rfl
theorem Row.drop_len (r : Row) (n : Nat) : (r.drop n).len = r.len - n := by
  cases r <;> simp only [Row.len, Row.drop] at * <;> simp
theorem Row.take_len (r : Row) {n : Nat} (h : n ≤ r.len) : (r.take n).len = n := by
  cases r <;> simp only [Row.len, Row.take] at * <;> simp [h]
end

/-- A slice's elements, as a row. -/
def rowOf (te : TI) : AV → Option Row
  | .lstI k xs => some (.ints k xs)
  | .lstS ss => some (.strs ss)
  | .lst sz l => some (.avs sz l)
  | .nils => match te.kd with
    | .int k => some (.ints k [])
    | .str => some (.strs [])
    | _ => some (.avs te.size [])
  | .str s => some (.ints .u8 (bytesOf s))
  | _ => none
def srcQ (te : TI) (e : Ents) (y : AV) : Q Row :=
  match y with
  | .sl nm sz off len => opt (lk e nm) fun x => opt x.row fun r => req (sz = te.size ∧ r.sz = te.size ∧ off + len ≤ r.len) (ret ((r.drop off).take len))
  | y => opt (rowOf te y) fun r => req (r.sz = te.size) (ret r)

section
variable {P : Program} {tt : Nat → Option TI} {G : Nat → Option AV} {t : Tms} {e : Ents} {nb : Nat} {dst : Option Tmp} {ty : TypeId} {pos : String} {after : Array Edge} {gd : Option (Nat × Bool)}

theorem byteCells_bytesOf (s : ByteArray) : byteCells s = (bytesOf s).map (Value.int .u8) := by
  unfold byteCells bytesOf; simp

theorem lst_cells {ρ : Nat → Nat} {S : Nat → Prop} {w : World} {N : Nat → Prop} {sz : Nat} : ∀ {l : List AV} {vs : Nat → List Value}, (∀ i x, l[i]? = some x → RC ρ S w N x (vs i) ∧ (vs i).length = sz) →
    ∃ news, RowC ρ S w N (.avs sz l) news ∧ news.length = l.length * sz ∧ ∀ j u, news[j]? = some u → ∃ i q x, l[i]? = some x ∧ q < sz ∧ j = i * sz + q ∧ (vs i)[q]? = some u
  | [], vs, _ => ⟨[], .nil, by simp, fun j u h => by simp at h⟩
  | x :: l, vs, h => by
    obtain ⟨news, g1, g2, g3⟩ := lst_cells (l := l) (vs := fun i => vs (i + 1)) (fun i y hy => h (i + 1) y (by simpa using hy))
    obtain ⟨h1, h2⟩ := h 0 x rfl
    refine ⟨vs 0 ++ news, .cons h1 h2 g1, by simp [h2, g2, Nat.add_mul]; omega, fun j u hj => ?_⟩
    by_cases hq : j < (vs 0).length
    · rw [List.getElem?_append_left hq] at hj
      exact ⟨0, j, x, rfl, by omega, by simp, hj⟩
    · rw [List.getElem?_append_right (by omega)] at hj
      obtain ⟨i, q, y, k1, k2, k3, k4⟩ := g3 _ u hj
      exact ⟨i + 1, q, y, by simpa using k1, k2, by rw [Nat.add_mul]; omega, k4⟩

/-- What comes first of it. -/
def Pre (P : Program) (size : Nat) (x : Value) (n : Nat) (news : List Value) (w : World) : Prop := ∀ m, m ≤ n → (Builtin.firstCells size m x).run P w = .ok (news.take (m * size)).toArray w
theorem srcSlice (w : World) {size : Nat} {tx e' : TypeId} (hk : P.underlying tx = some (.slice e')) (a : Addr) (n c : Nat) (news : List Value) (hl : news.length = n * size) (hnews : ∀ (j : Nat) (u : Value), news[j]? = some u → w.cell? (a.add j) = some u)
    (h1 : ∀ u ∈ news, u.oneCell' = true) : Src P size tx (.slice (some a) n c) n news w ∧ Pre P size (.slice (some a) n c) n news w := by
  refine ⟨Src.ofSlice w hk a n c news hl hnews h1, fun m hm => run_firstCells_some w size m a n c _ ?_ (fun j v hj => ?_)⟩
  · rw [List.length_take, hl]
    have : m * size ≤ n * size := Nat.mul_le_mul_right _ hm
    omega
  · rw [List.getElem?_take] at hj
    split at hj
    · exact hnews j v hj
    · cases hj
theorem srcNil (w : World) {size : Nat} {tx e' : TypeId} (hk : P.underlying tx = some (.slice e')) (c : Nat) : Src P size tx (.slice none 0 c) 0 [] w ∧ Pre P size (.slice none 0 c) 0 [] w :=
  ⟨Src.ofNil w hk c, fun m hm => by rw [run_firstCells_none]; simp⟩
theorem srcStr (w : World) {tx : TypeId} (hk : P.underlying tx = some .string) (s : ByteArray) : Src P 1 tx (.string s) s.size (byteCells s) w ∧ Pre P 1 (.string s) s.size (byteCells s) w := by
  refine ⟨Src.ofString w hk s, fun m hm => ?_⟩
  have : ((s.extract 0 m).data.map fun b => Value.int .u8 b.toNat) = ((byteCells s).take (m * 1)).toArray := by
    apply Array.ext'
    simp [byteCells, List.map_take]
  simp only [Builtin.firstCells, Sem.run_pure, this]

/-- What a source yields. -/
theorem src_run {B : Nat → Prop} {ρ : Nat → Nat} {D : Nat → Prop} {a : Act} {w : World} {t' : Tms} {e' : Ents} (hg : Good B G ρ D t' e' a w) (hle : Le e e') {te : TI} {y : AV} {u : Value} {r : Row} (hy : RV ρ (Stab B ρ e' w) w D y u) (h : Ok (srcQ te e y) r)
    {tx : TypeId} (hkd : (∃ s, y = .str s) → P.underlying tx = some .string) (hks : (∀ s, y ≠ .str s) → ∃ e', P.underlying tx = some (.slice e')) :
    ∃ news, (Src P te.size tx u r.len news w ∧ Pre P te.size u r.len news w) ∧ RowC ρ (Stab B ρ e' w) w D r news ∧ r.sz = te.size := by
  cases y <;> simp only [srcQ, rowOf] at h <;> first | exact h.none.elim | (obtain ⟨_, h9, _⟩ := h.opt; cases h9; done) | skip
  case str s =>
    obtain ⟨r', h2, h⟩ := h.opt
    obtain ⟨hsz, h⟩ := h.req
    have := h.ret; subst this
    cases h2
    have hks := hkd ⟨s, rfl⟩
    have hl : (bytesOf s).length = s.size := by simp [bytesOf]
    refine ⟨byteCells s, ?_, by rw [byteCells_bytesOf]; exact .ints, hsz⟩
    simp only [Row.len, hl]
    rw [← hsz, hy.str_inv]
    exact srcStr w hks s
  case sl nm sz off len =>
    obtain ⟨x, hx, h⟩ := h.opt
    obtain ⟨r', hr', h⟩ := h.opt
    obtain ⟨⟨h1, h2, h3⟩, h⟩ := h.req
    have := h.ret; subst this
    obtain ⟨e2, hk2⟩ := hks (fun s hs => by cases hs)
    obtain ⟨cs0, hu, hr⟩ := hy.inv (by simp)
    subst hu
    cases hr with
    | sl hn ha hl hm hb hc =>
    rename_i cap a n0
    obtain ⟨c, T', cs, g1, g2, g3⟩ := view_cells (hg.mem.en _ _ (hle _ _ hx)).2 hr'
    have hlen := g2.length
    have hrow := (g2.drop off).take len
    rw [Row.drop_sz, h2] at hrow
    refine ⟨_, ?_, hrow, by rw [Row.take_sz, Row.drop_sz, h2]⟩
    rw [Row.take_len _ (by rw [Row.drop_len]; omega)]
    have hcs : ∀ (j : Nat) (u : Value), cs[j]? = some u → c[j]? = some u := by
      intro j u hj
      have hlt := (List.getElem?_eq_some_iff.1 hj).1
      rw [← g3, List.getElem?_take, if_pos hlt] at hj
      simpa using hj
    refine srcSlice w hk2 a len cap _ ?_ (fun j u hj => ?_) hrow.one
    · rw [List.length_take, List.length_drop, hlen, h2, ← Nat.sub_mul]
      have : len * te.size ≤ (r'.len - off) * te.size := Nat.mul_le_mul_right _ (by omega)
      omega
    · rw [List.getElem?_take] at hj
      split at hj
      · next hlt =>
        rw [List.getElem?_drop] at hj
        rcases ha with rfl | ⟨h0, _, _⟩
        · rw [addr_add, h1, g1.cell]
          exact hcs _ _ hj
        · have : len = 0 := by omega
          subst this; omega
      · cases hj
  case nils =>
    obtain ⟨r', h2, h⟩ := h.opt
    obtain ⟨hsz, h⟩ := h.req
    have := h.ret; subst this
    obtain ⟨e2, hk2⟩ := hks (fun s hs => by cases hs)
    obtain ⟨cs0, hu, hr⟩ := hy.inv (by simp)
    subst hu
    cases hr
    have key : r'.len = 0 ∧ RowC ρ (Stab B ρ e' w) w D r' [] := by
      split at h2 <;> (cases h2; exact ⟨rfl, by constructor⟩)
    rw [key.1]
    exact ⟨[], srcNil w hk2 0, key.2, hsz⟩
  case lstI k xs =>
    obtain ⟨r', h2, h⟩ := h.opt
    obtain ⟨hsz, h⟩ := h.req
    have := h.ret; subst this
    obtain ⟨e2, hk2⟩ := hks (fun s hs => by cases hs)
    obtain ⟨cs0, hu, hr⟩ := hy.inv (by simp)
    subst hu
    cases hr with
    | lstI hl hm hc =>
    rename_i a' cap
    cases h2
    refine ⟨xs.map (Value.int k), ?_, .ints, hsz⟩
    rw [← hsz]
    cases a' with
    | none =>
      have : xs = [] := by
        cases xs with
        | nil => rfl
        | cons x xs => obtain ⟨b, o, h3, _⟩ := hc 0 x rfl; cases h3
      subst this
      exact srcNil w hk2 cap
    | some a' =>
      refine srcSlice w hk2 a' xs.length cap _ (by simp [Row.sz]) (fun j u hj => ?_) (fun u hu => by rw [List.mem_map] at hu; obtain ⟨x, _, rfl⟩ := hu; rfl)
      rw [List.getElem?_map, Option.map_eq_some_iff] at hj
      obtain ⟨x, hx, rfl⟩ := hj
      obtain ⟨b, o, h3, _, h4⟩ := hc j x hx
      cases h3
      simpa [addr_add] using h4
  case lstS ss =>
    obtain ⟨r', h2, h⟩ := h.opt
    obtain ⟨hsz, h⟩ := h.req
    have := h.ret; subst this
    obtain ⟨e2, hk2⟩ := hks (fun s hs => by cases hs)
    obtain ⟨cs0, hu, hr⟩ := hy.inv (by simp)
    subst hu
    cases hr with
    | lstS hl hm hc =>
    rename_i a' cap
    cases h2
    refine ⟨ss.map Value.string, ?_, .strs, hsz⟩
    rw [← hsz]
    cases a' with
    | none =>
      have : ss = [] := by
        cases ss with
        | nil => rfl
        | cons x xs => obtain ⟨b, o, h3, _⟩ := hc 0 x rfl; cases h3
      subst this
      exact srcNil w hk2 cap
    | some a' =>
      refine srcSlice w hk2 a' ss.length cap _ (by simp [Row.sz]) (fun j u hj => ?_) (fun u hu => by rw [List.mem_map] at hu; obtain ⟨x, _, rfl⟩ := hu; rfl)
      rw [List.getElem?_map, Option.map_eq_some_iff] at hj
      obtain ⟨x, hx, rfl⟩ := hj
      obtain ⟨b, o, h3, _, h4⟩ := hc j x hx
      cases h3
      simpa [addr_add] using h4
  case lst sz l =>
    obtain ⟨r', h2, h⟩ := h.opt
    obtain ⟨hsz, h⟩ := h.req
    have := h.ret; subst this
    obtain ⟨e2, hk2⟩ := hks (fun s hs => by cases hs)
    obtain ⟨cs0, hu, hr⟩ := hy.inv (by simp)
    subst hu
    cases hr with
    | lst vs hl hm hr' hc =>
    rename_i a' cap
    cases h2
    obtain ⟨news, g1, g2, g3⟩ := lst_cells (N := D) (fun i x hx => ⟨(hr' i x hx).mono (Evo.refl w) D (fun n h => h.elim), (hc i x hx).1⟩)
    refine ⟨news, ?_, g1, hsz⟩
    rw [← hsz]
    cases a' with
    | none =>
      have : l = [] := by
        cases l with
        | nil => rfl
        | cons x xs => obtain ⟨_, b, o, h3, _⟩ := hc 0 x rfl; cases h3
      subst this
      have : news = [] := List.eq_nil_of_length_eq_zero (by simp [g2])
      subst this
      exact srcNil w hk2 cap
    | some a' =>
      refine srcSlice w hk2 a' l.length cap _ (by simp [Row.sz, g2]) (fun j u hj => ?_) g1.one
      obtain ⟨i, q, x, hx, hq, hjq, huu⟩ := g3 j u hj
      obtain ⟨_, b, o, h3, _, h4⟩ := hc i x hx
      cases h3
      have := h4 q u huu
      rw [hjq]
      simpa [addr_add, Nat.add_assoc] using this

/-! ### append -/

def appQ (tt : Nat → Option TI) (e : Ents) (nb T : Nat) (x y : AV) : Q (AV × Del) :=
  opt (tt T) fun ti => match ti.kd with
  | .slice el => opt (tt el) fun te => bnd (srcQ te e y) fun s =>
    match x with
    | .nils => if s.len = 0 then ret (.nils, []) else req (s.len ≠ 0 ∧ s.len ≤ 140737488355328 ∧ s.len * te.bytes ≤ 140737488355328) (ret (.sl nb te.size 0 s.len, [(nb, some (.vec el s))]))
    | .sl nm sz off len => opt (lk e nm) fun z => match z with
      | .vec T' r => opt (Row.app (r.take len) s) fun r' => req (sz = te.size ∧ off = 0 ∧ len ≤ r.len ∧ T' = el ∧ len + s.len ≤ 140737488355328 ∧ (len + s.len) * te.bytes ≤ 140737488355328)
          (ret (.sl nb sz 0 (len + s.len), [(nm, none), (nb, some (.vec el r'))]))
      | _ => none
    | _ => none
  | _ => none

theorem app_run (hTT : TT P tt) {B : Nat → Prop} {ρ : Nat → Nat} {D : Nat → Prop} {a : Act} {w : World} {t' : Tms} {e' : Ents} (hg : Good B G ρ D t' e' a w) (hle : Le e e') (hD : ∀ n, nb ≤ n → n < nb + 16 → ¬ D n)
    {T tx : Nat} {x y v : AV} {d : Del} {ux uy : Value} (hx : RV ρ (Stab B ρ e' w) w D x ux) (hy : RV ρ (Stab B ρ e' w) w D y uy) (h : Ok (appQ tt e nb T x y) (v, d)) (U : TypeId)
    (hkd : (∃ s, y = .str s) → P.underlying tx = some .string) (hks : (∀ s, y ≠ .str s) → ∃ e', P.underlying tx = some (.slice e')) :
    ∃ u w', (Builtin.append_ #[T, tx] U #[ux, uy]).run P w = .ok u w' ∧ Post B ρ D e' w nb v d u w' := by
  unfold appQ at h
  have hh := h.opt
  clear h
  obtain ⟨ti, h1, h⟩ := hh
  split at h
  rotate_left
  · exact h.none.elim
  next el hk =>
  have hh := h.opt
  clear h
  obtain ⟨te, h2, h⟩ := hh
  have hh := h.bnd
  clear h
  obtain ⟨s, h3, h⟩ := hh
  obtain ⟨news, ⟨hsrc, _⟩, hrow, hssz⟩ := src_run hg hle hy h3 hkd hks
  have hu := (hTT _ _ h1).uslice hk
  obtain ⟨i, hi, hisz, hiby, hiz⟩ := (hTT _ _ h2).info
  have hzc := (RC.conc ρ (Stab B ρ e' w) w D te.z (hTT _ _ h2).pl)
  have hzsz : (shape te.z (conc te.z)).cells.size = te.size := by rw [hzc.cells]; simpa using (hTT _ _ h2).zs
  have hnl := hsrc.newsLen
  -- a new row
  have grow : ∀ (base : Option Addr) (sLen sCap : Nat) (olds : List Value) (r : Row), ux = .slice base sLen sCap → (Builtin.firstCells i.size sLen (.slice base sLen sCap)).run P w.drew = .ok olds.toArray w.drew → olds.length = sLen * te.size → sCap < sLen + s.len →
      sLen + s.len ≤ 140737488355328 → (sLen + s.len) * te.bytes ≤ 140737488355328 →
      ∃ c : Array Value, (Builtin.append_ #[T, tx] U #[ux, uy]).run P w = .ok (.slice (some ⟨w.heap.size, 0, none⟩) (sLen + s.len) (grownCap w (sLen + s.len) sCap el)) (w.drew.alloc (.cells c el)) ∧
        c.size = grownCap w (sLen + s.len) sCap el * te.size ∧ c.toList.take (olds ++ news).length = olds ++ news ∧ sLen + s.len ≤ grownCap w (sLen + s.len) sCap el ∧ grownCap w (sLen + s.len) sCap el ≤ maxLen := by
    intro base sLen sCap olds r hux hold hol hcap hb1 hb2
    subst hux
    have hrun := run_append_grow_src (P := P) w T tx U el i _ hu hi hiz base sLen sCap olds hold uy s.len news (by rw [hisz]; exact hsrc) hcap (by omega) (by rw [hiby]; exact growslice_fits hcap hb2)
    have hge := grownCap_ge w (sLen + s.len) sCap el
    have hml := grownCap_le_maxLen w (sLen + s.len) sCap el (by simp only [maxLen]; omega)
    refine ⟨_, hrun, ?_, ?_, hge, hml⟩
    · simp only [Array.size_append, List.size_toArray, size_zeroCells, hzsz, List.length_append, hol, hnl]
      rw [← Nat.add_mul, ← Nat.add_mul]
      congr 1; omega
    · rw [Array.toList_append, List.toList_toArray, List.take_append_of_le_length (Nat.le_refl _), List.take_length]
  split at h
  · -- onto nil
    by_cases hn0 : s.len = 0
    · rw [if_pos hn0] at h
      cases h.ret
      obtain ⟨cs0, e0, r0⟩ := hx.inv (by simp)
      subst e0
      cases r0
      have hnews : news = [] := List.eq_nil_of_length_eq_zero (by rw [hnl, hn0, Nat.zero_mul])
      subst hnews
      rw [hn0] at hsrc
      simp only [shape, AV.isAgg, cond_false, List.headD_cons]
      have hrun : (Builtin.append_ #[T, tx] U #[.slice none 0 0, uy]).run P w = .ok (.slice none 0 0) w := by
        rcases hsrc.kind with ⟨e', hk⟩ | hk <;> simp [Builtin.append_, run_underlying hu, run_underlying hk, (hTT _ _ h2).run_size, hsrc.len, hsrc.cells]
      exact ⟨_, _, hrun, Post.pure hg.mem (RV.one (cs := [_]) .nils)⟩
    rw [if_neg hn0] at h
    have hh := h.req
    clear h
    obtain ⟨⟨h4, h5, h6⟩, h⟩ := hh
    have hq := h.ret
    cases hq
    obtain ⟨cs0, e0, r0⟩ := hx.inv (by simp)
    subst e0
    cases r0
    obtain ⟨c, g1, g2, g3, g4, g5⟩ := grow none 0 0 [] s rfl (run_firstCells_none w.drew _ _ _ _) (by simp) (by omega) (by omega) (by rw [Nat.zero_add]; exact h6)
    refine ⟨_, _, g1, ?_⟩
    simp only [Nat.zero_add, List.nil_append] at g1 g2 g3 g4 g5 ⊢
    obtain ⟨hm1, he1⟩ := hg.mem.same (w' := w.drew) rfl rfl rfl rfl
    obtain ⟨ρ', q1, q2, q3⟩ := hm1.alloc nb (hD nb (Nat.le_refl _) (by omega)) (.cells c el) (.vec el s) (e' := ap [(nb, some (.vec el s))] e') (fun m => lk_up e' nb (some (.vec el s)) m)
      (fun ρ' D' hag hevo => .vec (hrow.mono (he1.evo.trans hevo) hag) (Cel.new w.drew _ _) g3)
    refine ⟨ρ', _, fun n hn => hn.imp id (fun q => by subst q; omega), ?_, q2, he1.trans q3⟩
    have hb : Rw (w.drew.alloc (.cells c el)) (ρ' nb) c.size := by rw [q1]; exact (Cel.new w.drew _ _).rw
    have := RV.one (RC.sl (S := Stab B ρ' (ap [(nb, some (.vec el s))] e') (w.drew.alloc (.cells c el))) (N := fun n => D n ∨ n = nb) (nm := nb) (sz := te.size) (off := 0) (len := s.len) (.inr rfl) (.inl rfl) g4 g5 hb (by rw [g2, Nat.zero_add]))
    rw [q1] at this
    rw [Nat.zero_mul] at this
    exact this
  · -- onto one's own
    next nm sz off len =>
    have hh := h.opt
    clear h
    obtain ⟨z, hz, h⟩ := hh
    split at h
    rotate_left
    · exact h.none.elim
    next T' r =>
    have hh := h.opt
    clear h
    obtain ⟨r', hr', h⟩ := hh
    have hh := h.req
    clear h
    obtain ⟨⟨h4, h5, h6, h7, h8, h9⟩, h⟩ := hh
    have hq := h.ret
    cases hq
    subst h4 h5 h7
    obtain ⟨al1, al2, al3⟩ := Row.app_len hr'
    rw [Row.take_sz] at al2 al3
    obtain ⟨cs0, e0, r0⟩ := hx.inv (by simp)
    subst e0
    cases r0 with
    | sl hn ha hl hm hb hc =>
    rename_i cap b n0
    have hz' := hle _ _ hz
    cases (hg.mem.en _ _ hz').2 with
    | vec hrow0 hb0 htake =>
    rename_i cs c
    have hn0 : n0 = c.size := by
      obtain ⟨c1, T1, fr1, e1, e2⟩ := hb
      obtain ⟨fr2, e3, _⟩ := hb0
      rw [e1] at e3; cases e3; exact e2.symm
    subst hn0
    have hcsl := hrow0.length
    have hrt := (hrow0.take len)
    rw [← al3, hssz] at hrt hcsl
    have hcsle : cs.length ≤ c.size := by
      have := congrArg List.length htake; rw [List.length_take] at this; simp at this; omega
    have holdl : (cs.take (len * te.size)).length = len * te.size := by
      rw [List.length_take, hcsl]
      have : len * te.size ≤ r.len * te.size := Nat.mul_le_mul_right _ h6
      omega
    have hcs : ∀ (j : Nat) (u : Value), cs[j]? = some u → c[j]? = some u := by
      intro j u hj
      have hlt := (List.getElem?_eq_some_iff.1 hj).1
      rw [← htake, List.getElem?_take, if_pos hlt] at hj
      simpa using hj
    have hbq : ∃ q, b = ⟨ρ nm, q, none⟩ ∧ (q = 0 ∨ cap = 0) := by
      rcases ha with ha | ⟨h0, ha1, ha2⟩
      · exact ⟨0, by simpa using ha, .inl rfl⟩
      · obtain ⟨bb, bo, bs⟩ := b
        simp only at ha1 ha2
        subst ha1 ha2
        exact ⟨bo, rfl, .inr h0⟩
    obtain ⟨q, rfl, hq0⟩ := hbq
    have hnew : RowC ρ (Stab B ρ e' w) w D r' (cs.take (len * te.size) ++ news) := hrt.app hrow hr'
    by_cases hroom : len + s.len ≤ cap
    · -- there is room
      have hq : news = [] ∨ q = 0 := by
        rcases hq0 with h | h
        · exact .inr h
        · left
          have : s.len = 0 := by omega
          exact List.eq_nil_of_length_eq_zero (by rw [hnl, this, Nat.zero_mul])
      have hfit : len * te.size + news.length ≤ c.size := by
        rw [hnl, ← Nat.add_mul, ← hc, Nat.zero_add]
        exact Nat.mul_le_mul_right _ hroom
      have hrun : (Builtin.append_ #[T, tx] U #[.slice (some ⟨ρ nm, q, none⟩) len cap, uy]).run P w = .ok (.slice (some ⟨ρ nm, q, none⟩) (len + s.len) cap) (w.setRow (ρ nm) (c.toList.take (len * te.size) ++ news ++ c.toList.drop (len * te.size + news.length)).toArray) := by
        rw [← hb0.storeCells hfit]
        have hX := run_append_room_src (P := P) w T tx U _ i hu hi (ρ nm) q len cap uy s.len news (by rw [hisz]; exact hsrc) hroom
          (fun j hj => by
            have hj' : q + len * i.size + j < c.size := by
              rcases hq with h | h
              · subst h; simp at hj
              · subst h; rw [hisz]; omega
            rw [hb0.cell]; simp [hj'])
          (fun j hj => hb0.frozen (by
            rcases hq with h | h
            · subst h; simp at hj
            · subst h; rw [hisz]; omega))
        rw [hX]
        congr 1
        rcases hq with h | h
        · subst h; rfl
        · subst h; rw [hisz, Nat.zero_add]
      refine ⟨_, _, hrun, ?_⟩
      have hlen' : (c.toList.take (len * te.size) ++ news ++ c.toList.drop (len * te.size + news.length)).length = c.size := by
        simp; omega
      have hheap := hb0.setRow (c' := (c.toList.take (len * te.size) ++ news ++ c.toList.drop (len * te.size + news.length)).toArray) (by simpa using hlen')
      obtain ⟨ρ', q1, q2, q3⟩ := hg.mem.move (nb := nb) (g := ρ nm) (x' := .vec T' r') (e' := ap [(nm, none), (nb, some (.vec T' r'))] e') (w' := w.setRow (ρ nm) (c.toList.take (len * te.size) ++ news ++ c.toList.drop (len * te.size + news.length)).toArray) hz' (hD nb (Nat.le_refl _) (by omega))
        (fun n => by simp only [ap]; rw [lk_up, lk_up]) (fun b _ hb' => setRow_other w _ _ _ hb') (by rw [size_setRow]; exact Nat.le_refl _) rfl rfl rfl
        (fun n hn => hn.setRow (by simpa using hlen') hb0) (.inl rfl)
        (fun ρ' D' hag hevo => .vec (hnew.mono hevo hag) hheap (by
          have e1 : c.toList.take (len * te.size) = cs.take (len * te.size) := by
            conv => rhs; rw [← htake]
            rw [List.take_take]
            congr 1
            rw [List.length_take] at holdl; omega
          rw [List.toList_toArray, e1, List.take_append_of_le_length (Nat.le_refl _), List.take_length]))
      refine ⟨ρ', _, fun n hn => hn.imp id (fun q => by subst q; omega), ?_, q2, q3⟩
      rw [← q1]
      refine RV.one (RC.sl (.inr rfl) ?_ (by omega) hm (by rw [q1]; exact hheap.rw) (by simp only [Nat.zero_add] at hc ⊢; rw [hc]; simpa using hlen'.symm))
      rcases hq0 with h | h
      · left; subst h; simp
      · right; exact ⟨h, rfl, rfl⟩
    · -- there is none
      have hold : (Builtin.firstCells i.size len (.slice (some ⟨ρ nm, q, none⟩) len cap)).run P w.drew = .ok (cs.take (len * te.size)).toArray w.drew := by
        rw [hisz]
        refine run_firstCells_some w.drew te.size len _ len cap _ holdl (fun j u hj => ?_)
        rw [List.getElem?_take] at hj
        split at hj
        · next hlt =>
          rcases hq0 with h | h
          · subst h
            rw [addr_add, Nat.zero_add]
            show w.cell? ⟨ρ nm, j, none⟩ = _
            rw [hb0.cell]; exact hcs _ _ hj
          · have : len = 0 := by omega
            subst this; omega
        · cases hj
      obtain ⟨c2, g1, g2, g3, g4, g5⟩ := grow (some ⟨ρ nm, q, none⟩) len cap (cs.take (len * te.size)) r' rfl hold holdl (by omega) h8 h9
      refine ⟨_, _, g1, ?_⟩
      obtain ⟨ρ', q1, q2, q3⟩ := hg.mem.move (nb := nb) (g := w.heap.size) (x' := .vec T' r') (e' := ap [(nm, none), (nb, some (.vec T' r'))] e') (w' := w.drew.alloc (.cells c2 T')) hz' (hD nb (Nat.le_refl _) (by omega))
        (fun n => by simp only [ap]; rw [lk_up, lk_up]) (fun b hb1 _ => alloc_old w.drew _ b hb1) (by show w.heap.size ≤ (w.heap.push _).size; simp) rfl rfl rfl
        (fun n hn => hn.congr (alloc_old w.drew _ _ hn.lt)) (.inr (Nat.le_refl _))
        (fun ρ' D' hag hevo => .vec (hnew.mono hevo hag) (Cel.new w.drew _ _) g3)
      refine ⟨ρ', _, fun n hn => hn.imp id (fun q => by subst q; omega), ?_, q2, q3⟩
      have hb2 : Rw (w.drew.alloc (.cells c2 T')) (ρ' nb) c2.size := by rw [q1]; exact (Cel.new w.drew _ _).rw
      rw [← q1]
      exact RV.one (RC.sl (.inr rfl) (.inl (by simp)) g4 g5 hb2 (by rw [g2, Nat.zero_add]))
  · exact h.none.elim

end
end Sx

/- copy, makes and conversions. -/
set_option linter.unusedVariables false
set_option linter.unusedSimpArgs false
namespace Sx
open Go

/-- The cells of an entry's row, written from one place on. -/
def Row.put (off : Nat) (s : Row) : Row → Option Row
  | .ints k xs => match s with
    | .ints k' ys => if k' = k then some (.ints k (xs.take off ++ ys ++ xs.drop (off + ys.length))) else none
    | _ => none
  | .strs xs => match s with
    | .strs ys => some (.strs (xs.take off ++ ys ++ xs.drop (off + ys.length)))
    | _ => none
  | _ => none
def Ent.put (off : Nat) (s : Row) : Ent → Option Ent
  | .obj T (.agg [.ints k n xs]) => match s with
    | .ints k' ys => if k' = k then some (.obj T (.agg [.ints k n (xs.take off ++ ys ++ xs.drop (off + ys.length))])) else none
    | _ => none
  | .vec T r => (Row.put off s r).map (.vec T)
  | _ => none

def copyQ (tt : Nat → Option TI) (e : Ents) (T : Nat) (x y : AV) : Q (AV × Del) :=
  opt (tt T) fun ti => match ti.kd with
  | .slice el => opt (tt el) fun te => bnd (srcQ te e y) fun s =>
    match x with
    | .nils => ret (.int .i64 0, [])
    | .sl nm sz off len => opt (lk e nm) fun z => opt z.row fun r => opt (z.put off (s.take (min s.len len))) fun z' => req (sz = 1 ∧ te.size = 1 ∧ off + len ≤ r.len) (ret (.int .i64 (min s.len len : Nat), [(nm, some z')]))
    | _ => none
  | _ => none

section
variable {P : Program} {tt : Nat → Option TI} {G : Nat → Option AV} {t : Tms} {e : Ents} {nb : Nat} {dst : Option Tmp} {ty : TypeId} {pos : String} {after : Array Edge} {gd : Option (Nat × Bool)}

theorem splice_take (l cs us : List Value) (q : Nat) (hc : l.take cs.length = cs) (hq : q + us.length ≤ cs.length) :
    (l.take q ++ us ++ l.drop (q + us.length)).take cs.length = cs.take q ++ us ++ cs.drop (q + us.length) := by
  have hl : cs.length ≤ l.length := by
    have := congrArg List.length hc; rw [List.length_take] at this; omega
  have e1 : l.take q = cs.take q := by rw [← hc, List.take_take]; congr 1; omega
  rw [e1, List.take_append, List.take_of_length_le (by simp; omega)]
  congr 1
  rw [← hc]
  rw [List.drop_take]
  simp only [List.length_append, List.length_take]
  congr 1
  omega

theorem put_row {ρ : Nat → Nat} {S : Nat → Prop} {w : World} {N : Nat → Prop} {b : Nat} {z z' : Ent} {r s : Row} {us : List Value} {off : Nat} (h : EntR ρ S w N b z) (hr : z.row = some r) (hz : z.put off s = some z') (hs : RowC ρ S w N s us) (hfit : off + s.len ≤ r.len) (hsz : r.sz = 1 → True) :
    ∃ c T, Cel w b c T ∧ off + us.length ≤ c.size ∧
      ∀ (S' : Nat → Prop) (w' : World), Cel w' b (c.toList.take off ++ us ++ c.toList.drop (off + us.length)).toArray T → EntR ρ S' w' N b z' := by
  cases h with
  | obj h hb =>
    unfold Ent.put at hz
    split at hz
    · next T0 k0 n0 xs0 heq =>
      cases heq
      split at hz
      · next k' ys =>
        split at hz
        · next hk =>
          subst hk
          cases hz
          cases hs
          simp only [Ent.row, Option.some.injEq] at hr
          subst hr
          cases h with
          | cons h1 h2 =>
            cases h2
            cases h1 with
            | ints hl =>
              simp only [Row.len] at hfit
              refine ⟨_, _, hb, ?_, fun S' w' hb' => ?_⟩
              · simp; omega
              have hlen : (xs0.take off ++ ys ++ xs0.drop (off + ys.length)).length = n0 := by simp; omega
              have := RC.cons (RC.ints (ρ := ρ) (S := S') (w := w') (N := N) (k := k') hlen) .nil
              refine .obj this ?_
              simpa using hb'
        · cases hz
      · cases hz
    · next heq => cases heq
    · cases hz
  | mset _ _ => cases hz
  | vec h hb hc =>
    rename_i T r0 cs c
    simp only [Ent.row, Option.some.injEq] at hr
    subst hr
    simp only [Ent.put, Option.map_eq_some_iff] at hz
    obtain ⟨r1, hz, rfl⟩ := hz
    have hle : cs.length ≤ c.size := by
      have := congrArg List.length hc; rw [List.length_take] at this; simp at this; omega
    cases h with
    | ints =>
      rename_i k xs
      simp only [Row.put] at hz
      split at hz
      · next k' ys =>
        split at hz
        · next hk =>
          subst hk
          cases hz
          cases hs
          simp only [Row.len] at hfit
          refine ⟨_, T, hb, by simp at hle ⊢; omega, fun S' w' hb' => .vec (cs := (xs.take off ++ ys ++ xs.drop (off + ys.length)).map (Value.int k')) .ints hb' ?_⟩
          have := splice_take c.toList (xs.map (Value.int k')) (ys.map (Value.int k')) off hc (by simp; omega)
          have e1 : ((xs.take off ++ ys ++ xs.drop (off + ys.length)).map (Value.int k')).length = (xs.map (Value.int k')).length := by simp; omega
          rw [e1, List.toList_toArray, this]
          simp
        · cases hz
      · cases hz
    | strs =>
      rename_i xs
      simp only [Row.put] at hz
      split at hz
      · next ys =>
        cases hz
        cases hs
        simp only [Row.len] at hfit
        refine ⟨_, T, hb, by simp at hle ⊢; omega, fun S' w' hb' => .vec (cs := (xs.take off ++ ys ++ xs.drop (off + ys.length)).map Value.string) .strs hb' ?_⟩
        have := splice_take c.toList (xs.map Value.string) (ys.map Value.string) off hc (by simp; omega)
        have e1 : ((xs.take off ++ ys ++ xs.drop (off + ys.length)).map Value.string).length = (xs.map Value.string).length := by simp; omega
        rw [e1, List.toList_toArray, this]
        simp
      · cases hz
    | nil => simp only [Row.put] at hz; cases hz
    | cons => simp only [Row.put] at hz; cases hz

theorem copy_run (hTT : TT P tt) {B : Nat → Prop} {ρ : Nat → Nat} {D : Nat → Prop} {a : Act} {w : World} {t' : Tms} {e' : Ents} (hg : Good B G ρ D t' e' a w) (hle : Le e e')
    {T tx : Nat} {x y v : AV} {d : Del} {ux uy : Value} (hx : RV ρ (Stab B ρ e' w) w D x ux) (hy : RV ρ (Stab B ρ e' w) w D y uy) (h : Ok (copyQ tt e T x y) (v, d)) (U : TypeId)
    (hkd : (∃ s, y = .str s) → P.underlying tx = some .string) (hks : (∀ s, y ≠ .str s) → ∃ e', P.underlying tx = some (.slice e')) :
    ∃ u w', (Builtin.copy_ #[T, tx] U #[ux, uy]).run P w = .ok u w' ∧ Post B ρ D e' w nb v d u w' := by
  unfold copyQ at h
  have hh := h.opt
  clear h
  obtain ⟨ti, h1, h⟩ := hh
  split at h
  rotate_left
  · exact h.none.elim
  next el hk =>
  have hh := h.opt
  clear h
  obtain ⟨te, h2, h⟩ := hh
  have hh := h.bnd
  clear h
  obtain ⟨s, h3, h⟩ := hh
  obtain ⟨news, ⟨hsrc, hpre⟩, hrow, hssz⟩ := src_run hg hle hy h3 hkd hks
  have hu := (hTT _ _ h1).uslice hk
  have hsize := (hTT _ _ h2).run_size (P := P) w
  have hl := hsrc.len w
  split at h
  · cases h.ret
    obtain ⟨cs0, e0, r0⟩ := hx.inv (by simp)
    subst e0
    cases r0
    have hp := hpre 0 (Nat.zero_le _)
    refine ⟨.int .i64 0, w, ?_, Post.pure hg.mem .ofInt⟩
    have hmin : Nat.min s.len 0 = 0 := by simp
    simp only [Builtin.copy_, shape, AV.isAgg, cond_false, List.headD_cons]
    simp [run_underlying hu, hl, hsize, hp, goInt]
  · next nm sz off len =>
    have hh := h.opt
    clear h
    obtain ⟨z, hz, h⟩ := hh
    have hh := h.opt
    clear h
    obtain ⟨r, hr, h⟩ := hh
    have hh := h.opt
    clear h
    obtain ⟨z', hz', h⟩ := hh
    have hh := h.req
    clear h
    obtain ⟨⟨h4, h5, h6⟩, h⟩ := hh
    cases h.ret
    subst h4
    obtain ⟨cs0, e0, r0⟩ := hx.inv (by simp)
    subst e0
    cases r0 with
    | sl hn ha hl' hm hb hc =>
    rename_i cap b n0
    have hze := hle _ _ hz
    have hent := (hg.mem.en _ _ hze).2
    have htk := hrow.take (min s.len len)
    rw [hssz, h5] at htk
    obtain ⟨c, T1, g1, g2, g3⟩ := put_row hent hr hz' htk (by rw [Row.take_len _ (Nat.min_le_left _ _)]; omega) (fun _ => trivial)
    have hp := hpre (min s.len len) (Nat.min_le_left _ _)
    rw [h5] at hp hsize
    have hnl : (news.take (min s.len len * 1)).length = min s.len len := by
      rw [List.length_take, hsrc.newsLen, h5]; omega
    refine ⟨.int .i64 (min s.len len : Nat), w.setRow (ρ nm) (c.toList.take off ++ news.take (min s.len len * 1) ++ c.toList.drop (off + (news.take (min s.len len * 1)).length)).toArray, ?_, ?_⟩
    · have hst : ∃ w1, (storeCells b (news.take (min s.len len * 1)) 0).run P w = .ok () w1 ∧ w1 = w.setRow (ρ nm) (c.toList.take off ++ news.take (min s.len len * 1) ++ c.toList.drop (off + (news.take (min s.len len * 1)).length)).toArray := by
        rcases ha with rfl | ⟨h0, _, _⟩
        · have := g1.store (P := P) g2 (fun v hv => hsrc.one v (List.mem_of_mem_take hv))
          rw [show off * 1 = off from Nat.mul_one _]
          exact ⟨_, this, rfl⟩
        · have h00 : min s.len len = 0 := by omega
          refine ⟨w, by rw [h00]; simp [storeCells], ?_⟩
          rw [h00]
          simp
          obtain ⟨fr, g1, _⟩ := g1
          exact (setRow_self w _ _ _ _ g1).symm
      obtain ⟨w1, k1, k2⟩ := hst
      rw [← k2]
      have hmin : Nat.min s.len len = min s.len len := rfl
      simp only [Builtin.copy_, shape, AV.isAgg, cond_false, List.headD_cons]
      simp only [Nat.mul_one] at hp k1
      simp [run_underlying hu, hl, hsize, hmin, hp, k1, goInt]
    · obtain ⟨ρ', D', p1, _, p3, p4⟩ := Post.write (nb := nb) hg.mem hze g1 (c' := (c.toList.take off ++ news.take (min s.len len * 1) ++ c.toList.drop (off + (news.take (min s.len len * 1)).length)).toArray) (x' := z') (by simp at g2 ⊢; omega) (fun S' w' _ hb' => g3 S' w' hb')
      exact ⟨ρ', D', p1, .ofInt, p3, p4⟩
  · exact h.none.elim

/-! ### append onto nil, by value -/

def Row.lst : Row → Option AV
  | .ints k xs => some (.lstI k xs)
  | .strs ss => some (.lstS ss)
  | _ => none
def appV (tt : Nat → Option TI) (e : Ents) (T : Nat) (x y : AV) : Q AV :=
  opt (tt T) fun ti => match ti.kd with
  | .slice el => opt (tt el) fun te => bnd (srcQ te e y) fun s =>
    match x with
    | .nils => opt s.lst fun v => req (s.len ≤ 140737488355328 ∧ s.len * te.bytes ≤ 140737488355328) (ret v)
    | _ => none
  | _ => none

/-- A new block, by value. -/
theorem lst_new {B : Nat → Prop} {ρ : Nat → Nat} {D : Nat → Prop} {e : Ents} {w : World} {r : Row} {v : AV} {news : List Value} {S0 : Nat → Prop} {w0 : World} {N0 : Nat → Prop} (hr : RowC ρ S0 w0 N0 r news) (hv : r.lst = some v) {b cap : Nat} {c : Array Value} {T : TypeId} {fr : Nat × Nat} (hb : w.heap[b]? = some (.cells c T fr)) (hS : Stab B ρ e w b)
    (ht : c.toList.take news.length = news) (hc : r.len ≤ cap) (hm : cap ≤ maxLen) : RV ρ (Stab B ρ e w) w D v (.slice (some ⟨b, 0, none⟩) r.len cap) := by
  have hcell : ∀ (j : Nat) (u : Value), news[j]? = some u → w.cell? ⟨b, j, none⟩ = some u := by
    intro j u hj
    have hlt := (List.getElem?_eq_some_iff.1 hj).1
    rw [← ht, List.getElem?_take, if_pos hlt] at hj
    have : c[j]? = some u := by simpa using hj
    simp [World.cell?, hb, this]
  cases hr <;> simp only [Row.lst] at hv <;> first | (cases hv; done) | skip
  · cases hv
    refine RV.one (cs := [_]) (RC.lstI hc hm (fun i x hi => ⟨b, 0, rfl, hS, ?_⟩))
    rw [Nat.zero_add]
    exact hcell i _ (by rw [List.getElem?_map, hi]; rfl)
  · cases hv
    refine RV.one (cs := [_]) (RC.lstS hc hm (fun i x hi => ⟨b, 0, rfl, hS, ?_⟩))
    rw [Nat.zero_add]
    exact hcell i _ (by rw [List.getElem?_map, hi]; rfl)

theorem appV_run (hTT : TT P tt) {B : Nat → Prop} {ρ : Nat → Nat} {D : Nat → Prop} {a : Act} {w : World} {t' : Tms} {e' : Ents} (hg : Good B G ρ D t' e' a w) (hle : Le e e')
    {T tx : Nat} {x y v : AV} {ux uy : Value} (hx : RV ρ (Stab B ρ e' w) w D x ux) (hy : RV ρ (Stab B ρ e' w) w D y uy) (h : Ok (appV tt e T x y) v) (U : TypeId)
    (hkd : (∃ s, y = .str s) → P.underlying tx = some .string) (hks : (∀ s, y ≠ .str s) → ∃ e', P.underlying tx = some (.slice e')) :
    ∃ u w', (Builtin.append_ #[T, tx] U #[ux, uy]).run P w = .ok u w' ∧ Post B ρ D e' w nb v [] u w' := by
  unfold appV at h
  have hh := h.opt
  clear h
  obtain ⟨ti, h1, h⟩ := hh
  split at h
  rotate_left
  · exact h.none.elim
  next el hk =>
  have hh := h.opt
  clear h
  obtain ⟨te, h2, h⟩ := hh
  have hh := h.bnd
  clear h
  obtain ⟨s, h3, h⟩ := hh
  split at h
  rotate_left
  · exact h.none.elim
  have hh := h.opt
  clear h
  obtain ⟨v', hv, h⟩ := hh
  have hh := h.req
  clear h
  obtain ⟨⟨h4, h5⟩, h⟩ := hh
  cases h.ret
  obtain ⟨news, ⟨hsrc, hpre⟩, hrow, hssz⟩ := src_run hg hle hy h3 hkd hks
  have hu := (hTT _ _ h1).uslice hk
  obtain ⟨i, hi, hisz, hiby, hiz⟩ := (hTT _ _ h2).info
  have hzsz : (shape te.z (conc te.z)).cells.size = te.size := by
    rw [(RC.conc ρ (Stab B ρ e' w) w D te.z (hTT _ _ h2).pl).cells]; simpa using (hTT _ _ h2).zs
  have hnl := hsrc.newsLen
  obtain ⟨cs0, e0, r0⟩ := hx.inv (by simp)
  subst e0
  cases r0
  simp only [shape, AV.isAgg, cond_false, List.headD_cons]
  by_cases hn : s.len = 0
  · have hnews : news = [] := List.eq_nil_of_length_eq_zero (by rw [hnl, hn, Nat.zero_mul])
    subst hnews
    rw [hn] at hsrc
    have hrun : (Builtin.append_ #[T, tx] U #[.slice none 0 0, uy]).run P w = .ok (.slice none 0 0) w := by
      rcases hsrc.kind with ⟨e', hk⟩ | hk <;> simp [Builtin.append_, run_underlying hu, run_underlying hk, (hTT _ _ h2).run_size, hsrc.len, hsrc.cells]
    refine ⟨_, _, hrun, Post.pure hg.mem ?_⟩
    cases s <;> simp only [Row.lst] at hv <;> first | (cases hv; done) | skip
    · cases hv
      simp only [Row.len] at hn
      have := List.eq_nil_of_length_eq_zero hn
      subst this
      exact RV.one (cs := [_]) (RC.lstI (a := none) (cap := 0) (by simp) (by simp [maxLen]) (fun i x hi => by simp at hi))
    · cases hv
      simp only [Row.len] at hn
      have := List.eq_nil_of_length_eq_zero hn
      subst this
      exact RV.one (cs := [_]) (RC.lstS (a := none) (cap := 0) (by simp) (by simp [maxLen]) (fun i x hi => by simp at hi))
  · have hrun := run_append_grow_src (P := P) w T tx U el i _ hu hi hiz none 0 0 [] (run_firstCells_none w.drew _ _ _ _) uy s.len news (by rw [hisz]; exact hsrc) (by omega) (by omega) (by rw [hiby]; exact growslice_fits (by omega) (by rw [Nat.zero_add]; exact h5))
    simp only [Nat.zero_add, List.nil_append] at hrun
    refine ⟨_, _, hrun, ?_⟩
    obtain ⟨hm1, he1⟩ := hg.mem.same (w' := w.drew) rfl rfl rfl rfl
    obtain ⟨q1, q2, q3⟩ := hm1.allocStable (hg.big _ (Nat.le_refl _)) (.cells (news.toArray ++ Builtin.zeroCells (shape te.z (conc te.z)).cells (grownCap w s.len 0 el - s.len)) el)
    refine ⟨ρ, D, fun n h => .inl h, ?_, q1, he1.trans q2⟩
    exact lst_new hrow hv (alloc_new w.drew _) q3 (by rw [Array.toList_append, List.toList_toArray, List.take_append_of_le_length (Nat.le_refl _), List.take_length]) (grownCap_ge w _ _ _) (grownCap_le_maxLen w _ _ _ (by simp only [maxLen]; omega))

/-! ### Strings and bytes -/

def s2bQ (tt : Nat → Option TI) (e : Ents) (t1 t2 : TI) (v : AV) : Q AV :=
  match t1.kd, t2.kd with
  | .slice el, .str => opt (tt el) fun te => match te.kd with
    | .int .u8 => bnd (srcQ te e v) fun s => match s with
      | .ints .u8 xs => req (∀ s, v ≠ .str s) (ret (.str (strOf xs)))
      | _ => none
    | _ => none
  | .str, .slice el => opt (tt el) fun te => match te.kd, v with
    | .int .u8, .str s => req (s.size ≤ 140737488355328) (ret (.lstI .u8 (bytesOf s)))
    | _, _ => none
  | _, _ => none

theorem foldl_strOf : ∀ (xs : List Int) (s : ByteArray), xs.foldl (fun r n => r.push (UInt8.ofNat n.toNat)) s = ⟨s.data ++ (xs.map fun n => UInt8.ofNat n.toNat).toArray⟩
  | [], s => by simp
  | x :: xs, s => by
    simp only [List.foldl_cons]
    rw [foldl_strOf xs]
    simp [ByteArray.push]
theorem foldl_empty (xs : List Int) : xs.foldl (fun r n => r.push (UInt8.ofNat n.toNat)) ByteArray.empty = strOf xs := by
  rw [foldl_strOf]
  have : ByteArray.empty.data = #[] := rfl
  rw [this]
  simp [strOf]

theorem bts_none (w : World) (n c : Nat) : (Conv.bytesToString (.slice none n c)).run P w = .ok (.string ByteArray.empty) w := by
  simp [Conv.bytesToString]
theorem s2b_sound (hTT : TT P tt) {T1 T2 : Nat} {t1 t2 : TI} {x : Operand} {p v : AV} (h1 : TyOK P T1 t1) (h2 : TyOK P T2 t2) (hx : ev G t x = some p) (h : Ok (s2bQ tt e t1 t2 p) v) :
    OpSound P G t e nb ⟨dst, .convert T1 T2 x, ty, pos, after, gd⟩ v [] := by
  intro B ρ D t' e' a w ht hle hg _
  have hv := ev_sound hg ht hx
  unfold s2bQ at h
  split at h
  · next el hk1 hk2 =>
    have hh := h.opt
    clear h
    obtain ⟨te, he, h⟩ := hh
    split at h
    · next hk =>
      have hh := h.bnd
      clear h
      obtain ⟨s, hs, h⟩ := hh
      split at h
      · next xs =>
        obtain ⟨hns, h⟩ := h.req
        cases h.ret
        have hu1 := h1.uslice hk1
        obtain ⟨news, ⟨hsrc, hpre⟩, hrow, hsz⟩ := src_run (tx := T1) hg hle hv hs (fun ⟨s, hs⟩ => absurd hs (hns s)) (fun _ => ⟨el, hu1⟩)
        cases hrow
        have hp := hpre xs.length (Nat.le_refl _)
        have hsz1 : te.size = 1 := hsz.symm
        have hrun : ∀ (ad : Option Addr) (n c : Nat), a.eval x = .slice ad n c → (execOp a.eval ⟨dst, .convert T1 T2 x, ty, pos, after, gd⟩).run P w = .ok (.value (.string (strOf xs))) w := by
          intro ad n c hax
          have hl := hsrc.len w
          rw [hax] at hl hp
          have hn : n = xs.length := by simpa [Builtin.lenOf, Row.len] using hl
          subst hn
          have : (convert T1 T2 (.slice ad xs.length c)).run P w = .ok (.string (strOf xs)) w := by
            rw [run_convert_bytes_string w T1 T2 el ad xs.length c hu1 ((hTT _ _ he).uint hk) (h2.ustr hk2)]
            cases ad with
            | none =>
              have hf : (xs.map (Value.int .u8)).length = 0 := by
                have e := hp
                rw [run_firstCells_none] at e
                have := congrArg (fun r : Result (Array Value) => match r with | .ok a _ => a.size | _ => 0) e
                simp [hsz1] at this
                simpa using this.symm
              have : xs = [] := by simpa using hf
              subst this
              rw [bts_none]
              rfl
            | some ad =>
              rw [run_bytesToString w ad xs.length c xs ?_, foldl_empty]
              have e := hp
              simp only [Builtin.firstCells, hsz1, Nat.mul_one] at e
              rw [e]
              rw [List.take_of_length_le (by simp)]
          simp only [execOp, hax, Sem.run_bind, this, Result.andThen_ok, Sem.run_pure]
        have hform : ∃ ad n c, a.eval x = .slice ad n c := by
          cases p <;> simp only [srcQ, rowOf] at hs <;> first | exact hs.none.elim | (obtain ⟨_, h9, _⟩ := hs.opt; cases h9; done) | (exact absurd rfl (hns _)) | skip
          all_goals
            obtain ⟨cs, hu, hr⟩ := hv.inv (by simp)
            cases hr
            exact ⟨_, _, _, hu⟩
        obtain ⟨ad, n, c, hax⟩ := hform
        exact .value (hrun ad n c hax) (Post.pure hg.mem .ofStr)
      · exact h.none.elim
    · exact h.none.elim
  · next el hk1 hk2 =>
    have hh := h.opt
    clear h
    obtain ⟨te, he, h⟩ := hh
    split at h
    · next s hk =>
      obtain ⟨hsl, h⟩ := h.req
      cases h.ret
      have hrun := run_bytes_of_string (P := P) w T1 T2 el s (h1.ustr hk1) (h2.uslice hk2) ((hTT _ _ he).uint hk)
      obtain ⟨hm1, he1⟩ := hg.mem.same (w' := w.drew) rfl rfl rfl rfl
      obtain ⟨q1, q2, q3⟩ := hm1.allocStable (hg.big _ (Nat.le_refl _)) (.cells (bytesRow s (grownCap w s.size 0 el)) el ((bytesRow s (grownCap w s.size 0 el)).size, (bytesRow s (grownCap w s.size 0 el)).size + 1))
      refine .value (x := .slice (some ⟨w.heap.size, 0, none⟩) s.size (grownCap w s.size 0 el)) (w' := w.drew.alloc (.cells (bytesRow s (grownCap w s.size 0 el)) el ((bytesRow s (grownCap w s.size 0 el)).size, (bytesRow s (grownCap w s.size 0 el)).size + 1))) ?_ ⟨ρ, D, fun n h => .inl h, ?_, q1, he1.trans q2⟩
      · simp only [execOp, hv.str_inv, Sem.run_bind, hrun, Result.andThen_ok, Sem.run_pure]
      · have hl : (bytesOf s).length = s.size := by simp [bytesOf]
        have := lst_new (r := .ints .u8 (bytesOf s)) (v := .lstI .u8 (bytesOf s)) (ρ := ρ) (D := D) (w := w.drew.alloc (.cells (bytesRow s (grownCap w s.size 0 el)) el ((bytesRow s (grownCap w s.size 0 el)).size, (bytesRow s (grownCap w s.size 0 el)).size + 1))) (cap := grownCap w s.size 0 el) (S0 := NoNm) (w0 := w) (N0 := NoNm) (RowC.ints (ρ := ρ)) rfl (alloc_new w.drew _) q3 ?_ ?_ ?_
        · simp only [Row.len, hl] at this
          exact this
        · rw [← byteCells_bytesOf]
          simp [bytesRow, byteCells]
        · simp only [Row.len, hl]; exact grownCap_ge w _ _ _
        · exact grownCap_le_maxLen w _ _ _ (by simp only [maxLen]; omega)
    · exact h.none.elim
  · exact h.none.elim
end
end Sx

/- make, slice literals, the built-ins together. -/
set_option linter.unusedVariables false
set_option linter.unusedSimpArgs false
namespace Sx
open Go

theorem made_flat (z : Array Value) (n sz : Nat) (hz : z.size = sz) : madeCells z (n * sz) = (List.replicate n z.toList).flatten.toArray := by
  apply Array.ext'
  simp only [madeCells, Array.toList_map, Array.toList_range]
  induction n with
  | zero => simp
  | succ n ih =>
    rw [Nat.add_mul, Nat.one_mul, List.range_add, List.map_append, ih, List.replicate_succ', List.flatten_append, List.flatten_singleton]
    congr 1
    apply List.ext_getElem (by simp [hz])
    intro j h1 h2
    have hj : j < sz := by simpa using h1
    simp only [List.getElem_map, List.getElem_range]
    have : (n * sz + j) % z.size = j := by rw [hz, Nat.mul_comm, Nat.mul_add_mod, Nat.mod_eq_of_lt hj]
    rw [this, getElem!_pos z j (by omega)]
    simp

/-- So many zero values, one behind the other. -/
def zeroCs (te : TI) (n : Nat) : List AV :=
  match te.z with
  | .int k m => [.ints k n (List.replicate n m)]
  | z => (List.replicate n (comps z)).flatten
theorem RC.flat {ρ : Nat → Nat} {S : Nat → Prop} {w : World} {N : Nat → Prop} {cs : List AV} {vals : List Value} (h : RC ρ S w N (.agg cs) vals) : ∀ n, RC ρ S w N (.agg (List.replicate n cs).flatten) (List.replicate n vals).flatten
  | 0 => .nil
  | n + 1 => by
    rw [List.replicate_succ, List.replicate_succ, List.flatten_cons, List.flatten_cons]
    exact h.append (RC.flat h n)
theorem zeroCs_RC {P : Program} {T : Nat} {te : TI} (hT : TyOK P T te) (ρ : Nat → Nat) (S : Nat → Prop) (w : World) (N : Nat → Prop) (n : Nat) : RC ρ S w N (.agg (zeroCs te n)) (List.replicate n (conc te.z)).flatten := by
  have h := (RC.conc ρ S w N te.z hT.pl).comps
  unfold zeroCs
  split
  · next k m hz =>
    rw [hz]
    have : (List.replicate n (conc (.int k m))).flatten = (List.replicate n m).map (Value.int k) ++ [] := by
      simp [conc]
    rw [this]
    exact .cons (.ints (by simp)) .nil
  · exact h.flat n

def strsOf : List AV → Option (List ByteArray)
  | [] => some []
  | .str s :: l => (strsOf l).map (s :: ·)
  | _ :: _ => none
theorem strsOf_spec {ρ : Nat → Nat} {S : Nat → Prop} {w : World} {N : Nat → Prop} : ∀ {l : List AV} {xs : List ByteArray} {cs : List Value}, strsOf l = some xs → RC ρ S w N (.agg l) cs → cs = xs.map Value.string
  | [], _, _, h, hr => by cases h; cases hr; rfl
  | c :: l, xs, _, h, .cons h1 h2 => by
    cases c <;> simp only [strsOf] at h <;> first | (cases h; done) | skip
    simp only [Option.map_eq_some_iff] at h
    obtain ⟨ys, h3, rfl⟩ := h
    cases h1
    rw [strsOf_spec h3 h2]; simp
def chunks (sz : Nat) : Nat → List AV → Option (List AV)
  | 0, [] => some []
  | 0, _ :: _ => none
  | n + 1, cs => (takeC cs sz).bind fun ds => (dropC cs sz).bind fun es => (chunks sz n es).map (.agg ds :: ·)
theorem chunks_spec {ρ : Nat → Nat} {S : Nat → Prop} {w : World} {N : Nat → Prop} {sz : Nat} : ∀ {n : Nat} {cs l : List AV} {vals : List Value}, chunks sz n cs = some l → RC ρ S w N (.agg cs) vals → RowC ρ S w N (.avs sz l) vals
  | 0, [], _, _, h, hr => by cases h; cases hr; exact .nil
  | 0, _ :: _, _, _, h, _ => by cases h
  | n + 1, cs, l, vals, h, hr => by
    simp only [chunks, Option.bind_eq_some_iff, Option.map_eq_some_iff] at h
    obtain ⟨ds, h1, es, h2, l', h3, rfl⟩ := h
    obtain ⟨k1, k2⟩ := hr.take h1
    obtain ⟨k3, k4⟩ := hr.drop h2
    rw [← List.take_append_drop sz vals]
    exact .cons k1 (by simp; omega) (chunks_spec h3 k3)
def ones : List AV → Bool
  | [] => true
  | c :: l => csize c == some 1 && ones l
theorem ones_spec {ρ : Nat → Nat} {S : Nat → Prop} {w : World} {N : Nat → Prop} : ∀ {cs : List AV} {vals : List Value}, ones cs = true → RC ρ S w N (.agg cs) vals → RowC ρ S w N (.avs 1 cs) vals
  | [], _, _, hr => by cases hr; exact .nil
  | c :: l, _, h, .cons h1 h2 => by
    simp only [ones, Bool.and_eq_true, beq_iff_eq] at h
    exact .cons h1 (RC.size h1 h.1) (ones_spec h.2 h2)
/-- Cells, as a row. -/
def cellsRow (te : TI) (n : Nat) (cs : List AV) : Option Row :=
  match te.kd with
  | .int k => (intsOf k cs).map (.ints k)
  | .str => (strsOf cs).map .strs
  | kd => bif kd.agg then (chunks te.size n cs).map (.avs te.size) else bif ones cs then some (.avs 1 cs) else none
theorem cellsRow_spec {ρ : Nat → Nat} {S : Nat → Prop} {w : World} {N : Nat → Prop} {te : TI} {n : Nat} {cs : List AV} {r : Row} {vals : List Value} (h : cellsRow te n cs = some r) (hr : RC ρ S w N (.agg cs) vals) : RowC ρ S w N r vals := by
  unfold cellsRow at h
  split at h
  · simp only [Option.map_eq_some_iff] at h
    obtain ⟨xs, h1, rfl⟩ := h
    rw [intsOf_spec h1 hr]; exact .ints
  · simp only [Option.map_eq_some_iff] at h
    obtain ⟨xs, h1, rfl⟩ := h
    rw [strsOf_spec h1 hr]; exact .strs
  · cases hk : Kd.agg te.kd <;> simp only [hk, cond_true, cond_false] at h
    · cases ho : ones cs <;> simp only [ho, cond_true, cond_false] at h
      · cases h
      · cases h; exact ones_spec ho hr
    · simp only [Option.map_eq_some_iff] at h
      obtain ⟨xs, h1, rfl⟩ := h
      exact chunks_spec h1 hr

section
variable {P : Program} {tt : Nat → Option TI} {G : Nat → Option AV} {t : Tms} {e : Ents} {nb : Nat} {dst : Option Tmp} {ty : TypeId} {pos : String} {after : Array Edge} {gd : Option (Nat × Bool)}

/-- A new row of one's own. -/
theorem Post.row {B : Nat → Prop} {ρ : Nat → Nat} {D : Nat → Prop} {e : Ents} {w : World} {r : Row} {cs : List Value} {c : Array Value} {T : TypeId} {len cap : Nat} (hm : Mem B ρ D e w) (hD : ∀ n, nb ≤ n → n < nb + 16 → ¬ D n)
    (hr : RowC ρ (Stab B ρ e w) w D r cs) (hc : c.toList.take cs.length = cs) (hlen : len ≤ cap) (hcap : cap ≤ maxLen) (hs : c.size = cap * r.sz) :
    Post B ρ D e w nb (.sl nb r.sz 0 len) [(nb, some (.vec T r))] (.slice (some ⟨w.heap.size, 0, none⟩) len cap) (w.alloc (.cells c T)) := by
  obtain ⟨ρ', h1, h2, h3⟩ := hm.alloc nb (hD nb (Nat.le_refl _) (by omega)) (.cells c T) (.vec T r) (e' := ap [(nb, some (.vec T r))] e) (fun m => lk_up e nb (some (.vec T r)) m)
    (fun ρ' D' hag hevo => .vec (hr.mono hevo hag) (Cel.new w _ _) hc)
  refine ⟨ρ', _, fun n hn => hn.imp id (fun q => by subst q; omega), ?_, h2, h3⟩
  rw [← h1]
  exact .one (cs := [_]) (.sl (.inr rfl) (.inl (by simp)) hlen hcap (by rw [h1]; exact (Cel.new w _ _).rw) (by rw [hs, Nat.zero_add]))

def mkQ (tt : Nat → Option TI) (nb : Nat) (ti : TI) (x y : AV) : Q (AV × Del) :=
  match ti.kd, x, y with
  | .slice el, .int _ l, .int _ c => opt (tt el) fun te => opt (cellsRow te c.toNat (zeroCs te c.toNat)) fun r =>
      req (0 ≤ l ∧ l ≤ c ∧ (te.bytes : Int) * c ≤ 281474976710656 ∧ c ≤ 9223372036854775807 ∧ r.sz = te.size ∧ r.len = c.toNat) (ret (.sl nb r.sz 0 l.toNat, [(nb, some (.vec el (r.take l.toNat)))]))
  | _, _, _ => none
theorem sound_make (hTT : TT P tt) {T : Nat} {ti : TI} {x y : Operand} {a b v : AV} {d : Del} (hT : TyOK P T ti) (hx : ev G t x = some a) (hy : ev G t y = some b) (h : Ok (mkQ tt nb ti a b) (v, d)) : OpSound P G t e nb ⟨dst, .makeSlice T x y, ty, pos, after, gd⟩ v d := by
  intro B ρ D t' e' c w ht hle hg hD
  have hx' := ev_sound hg ht hx
  have hy' := ev_sound hg ht hy
  clear hx hy
  cases hk : ti.kd <;> cases a <;> cases b <;> simp only [mkQ, hk] at h <;> first | exact h.none.elim | skip
  · rename_i el k1 l k2 cp
    have hh := h.opt
    clear h
    obtain ⟨te, he, h⟩ := hh
    have hh := h.opt
    clear h
    obtain ⟨r, hr, h⟩ := hh
    obtain ⟨⟨h1, h2, h3, h4, h5, h6⟩, h⟩ := h.req
    cases h.ret
    have hte := hTT _ _ he
    obtain ⟨i, hi, hisz, hiby, hiz⟩ := hte.info
    have hzc : (shape te.z (conc te.z)).cells = (conc te.z).toArray := (RC.conc ρ (Stab B ρ e' w) w D te.z hte.pl).cells
    have hrun := run_make (P := P) w T el i _ (hT.uslice hk) hi hiz k1 k2 l cp h1 h2 (by rw [hiby]; exact h3) h4
    have hcells : madeCells (shape te.z (conc te.z)).cells (cp.toNat * i.size) = (List.replicate cp.toNat (conc te.z)).flatten.toArray := by
      rw [hisz, made_flat _ _ te.size (by rw [hzc]; simpa using hte.zs), hzc]
    rw [hcells] at hrun
    have hrow := cellsRow_spec hr (zeroCs_RC hte ρ (Stab B ρ e' w) w D cp.toNat)
    have hrl := hrow.length
    have hpost := Post.row (nb := nb) (T := el) (len := l.toNat) (cap := cp.toNat) (c := (List.replicate cp.toNat (conc te.z)).flatten.toArray) hg.mem hD (hrow.take l.toNat) (by rw [List.toList_toArray, List.length_take, ← List.take_take, List.take_length]) (by omega) (by simp only [maxLen]; omega)
      (by rw [Row.take_sz]; simp only [List.size_toArray]; rw [hrl, h6])
    rw [Row.take_sz] at hpost
    refine .value ?_ hpost
    simp only [execOp, hx'.int_inv, hy'.int_inv, Sem.run_bind, hrun, Result.andThen_ok, Sem.run_pure]

def bslQ (tt : Nat → Option TI) (nb : Nat) (ti : TI) (n : Nat) (vs : List (Nat × AV)) : Q (AV × Del) :=
  match ti.kd with
  | .slice el => opt (tt el) fun te => bnd (bldA te vs (zeroCs te n)) fun cs => opt (cellsRow te n cs) fun r =>
      req (n * te.size ≤ 16777216 ∧ r.sz = te.size ∧ r.len = n ∧ n ≤ 16777216) (ret (.sl nb r.sz 0 n, [(nb, some (.vec el r))]))
  | _ => none
theorem sound_buildSlice (hTT : TT P tt) {T n : Nat} {ti : TI} {ps : Array (Nat × Operand)} {vs : List (Nat × AV)} {v : AV} {d : Del} (hT : TyOK P T ti) (hps : evP G t ps.toList = some vs) (h : Ok (bslQ tt nb ti n vs) (v, d)) :
    OpSound P G t e nb ⟨dst, .buildSlice T n ps, ty, pos, after, gd⟩ v d := by
  intro B ρ D t' e' a w ht hle hg hD
  have h2 := evP_sound hg ht hps
  have hparts : (ps.map fun (i, x) => (i, a.eval x)).toList = ps.toList.map fun p => (p.1, a.eval p.2) := by simp
  unfold bslQ at h
  split at h
  · next el hk =>
    have hh := h.opt
    clear h
    obtain ⟨te, he, h⟩ := hh
    have hh := h.bnd
    clear h
    obtain ⟨cs, hcs, h⟩ := hh
    have hh := h.opt
    clear h
    obtain ⟨r, hr, h⟩ := hh
    obtain ⟨⟨q1, q2, q3, q4⟩, h⟩ := h.req
    cases h.ret
    have hte := hTT _ _ he
    have hzc : (shape te.z (conc te.z)).cells = (conc te.z).toArray := (RC.conc ρ (Stab B ρ e' w) w D te.z hte.pl).cells
    obtain ⟨us, k1, k2⟩ := bldA_run h2 (zeroCs_RC hte ρ (Stab B ρ e' w) w D n) hcs
    have hrow := cellsRow_spec hr k2
    have hrl := hrow.length
    have hcells : madeCells (conc te.z).toArray (n * te.size) = (List.replicate n (conc te.z)).flatten.toArray := by
      rw [made_flat _ _ te.size (by simpa using hte.zs)]
    have hpost := Post.row (nb := nb) (T := el) (len := n) (cap := n) (c := us.toArray) hg.mem hD hrow (by simp) (Nat.le_refl _) (by simp only [maxLen]; omega) (by simp only [List.size_toArray]; rw [hrl, q3])
    refine .value ?_ hpost
    have hsm : ¬ (n * te.size > 2 ^ 24) := by omega
    obtain ⟨i, hi, hisz, hiby, hiz⟩ := hte.info
    have hgoal : (Instr.buildSlice T n (ps.map fun (i, x) => (i, a.eval x))).run P w = .ok (.slice (some ⟨w.heap.size, 0, none⟩) n n) (w.alloc (.cells us.toArray el)) := by
      by_cases hn : n * te.size = 0
      · have hemp : (List.replicate n (conc te.z)).flatten.toArray = #[] := by
          rw [← hcells, hn]; simp [madeCells]
        rw [hemp] at k1
        simp [Instr.buildSlice, run_underlying (hT.uslice hk), hte.run_size, hn, newRow]
        have hr0 : (Array.map (fun (_ : Nat) => (default : Value)) (Array.range 0)) = #[] := by simp
        rw [hr0, k1]
        simp
      · refine run_buildSlice w T el n _ us.toArray i _ (hT.uslice hk) hi hiz (by rw [hisz]; exact hsm) (by rw [hisz]; exact hn) ?_
        rw [hparts, hisz, hzc, ← k1, ← hcells]
        rfl
    simp only [execOp, Sem.run_bind, hgoal, Result.andThen_ok, Sem.run_pure]
  · exact h.none.elim

/-! ### The built-ins -/

/-- So many zeros onto nil. -/
def appZ (tt : Nat → Option TI) (e : Ents) (nb T : Nat) (x : AV) (j : Int) : Q (AV × Del) :=
  opt (tt T) fun ti => match ti.kd, x with
  | .slice el, .nils => opt (tt el) fun te => match te.z with
    | .int k z => if j = 0 then req (z = 0 ∧ te.size = 1) (ret (.nils, [])) else req (z = 0 ∧ te.size = 1 ∧ 0 < j ∧ j ≤ 140737488355328 ∧ j.toNat * te.bytes ≤ 140737488355328) (ret (.sl nb te.size 0 j.toNat, [(nb, some (.vec el (.ints k (List.replicate j.toNat 0))))]))
    | _ => none
  | .slice el, .sl nm sz off len => opt (tt el) fun te => match te.z with
    | .int k z => opt (lk e nm) fun y => match y with
      | .vec T' (.ints k' xs) => req (z = 0 ∧ k' = k ∧ te.size = 1 ∧ sz = 1 ∧ off = 0 ∧ len ≤ xs.length ∧ T' = el ∧ 0 ≤ j ∧ len + j.toNat ≤ 140737488355328 ∧ (len + j.toNat) * te.bytes ≤ 140737488355328)
          (ret (.sl nb sz 0 (len + j.toNat), [(nm, none), (nb, some (.vec el (.ints k' (xs.take len ++ List.replicate j.toNat 0))))]))
      | _ => none
    | _ => none
  | _, _ => none

theorem zeroCells_one (v : Value) (n : Nat) : (Builtin.zeroCells #[v] n).toList = List.replicate n v := by
  unfold Builtin.zeroCells
  apply List.ext_getElem
  · simp
  · intro i h1 h2
    simp [Nat.mod_one]

/-- Zeros onto a row that has room. -/
theorem run_append_room_zeros (w : World) (t tn ty el : TypeId) (i : TypeInfo) (kq kn : IntKind) (k : IntKind) (ht : P.underlying t = some (.slice el)) (htn : P.underlying tn = some (.int kn)) (hi : P.info? el = some i) (hz : i.zero = some (.int k 0)) (h1 : i.size = 1)
    (b off sLen sCap n : Nat) (hroom : sLen + n ≤ sCap) (h63 : ((n : Nat) : Int) ≤ 9223372036854775807) (h48 : n * i.bytes ≤ 281474976710656)
    (hc : ∀ j, j < n → (w.cell? ⟨b, off + sLen + j, none⟩).isSome = true) (hf : ∀ j, j < n → w.frozen? ⟨b, off + sLen + j, none⟩ = false) :
    (Builtin.append_ #[t, tn] ty #[.slice (some ⟨b, off, none⟩) sLen sCap, .int kq n]).run P w = .ok (.slice (some ⟨b, off, none⟩) (sLen + n) sCap) (w.setCells b (off + sLen) (List.replicate n (.int k 0))) := by
  have hst := run_storeCells_cells (P := P) b (off + sLen) (List.replicate n (Value.int k 0)) 0 w (by simpa using hc) (by simpa using hf) (fun v hv => by rw [List.mem_replicate] at hv; rw [hv.2]; rfl)
  simp only [Nat.add_zero] at hst
  have hw : IntKind.i64.wrap (n : Int) = n := by rw [IntKind.wrap_i64]; omega
  have h48i : ¬ (281474976710656 < (n : Int) * (i.bytes : Int)) := by
    rw [← Int.natCast_mul]
    omega
  have hneg : ¬ ((n : Int) < 0) := by omega
  by_cases hn : n = 0
  · subst hn
    have hw0 : IntKind.i64.wrap 0 = 0 := by rw [IntKind.wrap_i64]; rfl
    have hroom0 : sLen ≤ sCap := hroom
    have hst0 : (storeCells (⟨b, off + sLen, none⟩ : Addr) [] 0).run P w = .ok () (w.setCells b (off + sLen) []) := by simpa using hst
    simp [Builtin.append_, run_underlying ht, run_underlying htn, Go.sizeOf, typeInfo, zeroValue, hi, hz, h1, asInt, asIntOf, hw0, hroom0, Addr.add_lit, hst0]
  · have hcell : (Value.int k 0).cells = #[Value.int k 0] := rfl
    simp [Builtin.append_, run_underlying ht, run_underlying htn, Go.sizeOf, typeInfo, zeroValue, hi, hz, h1, asInt, asIntOf, hw, hn, hneg, h48i, hroom, Addr.add_lit, hcell, zeroCells_one, hst]
/-- None onto nil. -/
theorem run_append_nil_none (w : World) (t tn ty el : TypeId) (i : TypeInfo) (kq kn : IntKind) (k : IntKind) (ht : P.underlying t = some (.slice el)) (htn : P.underlying tn = some (.int kn)) (hi : P.info? el = some i) (hz : i.zero = some (.int k 0)) (h1 : i.size = 1) :
    (Builtin.append_ #[t, tn] ty #[.slice none 0 0, .int kq 0]).run P w = .ok (.slice none 0 0) w := by
  have hw : IntKind.i64.wrap 0 = 0 := by rw [IntKind.wrap_i64]; rfl
  simp [Builtin.append_, run_underlying ht, run_underlying htn, Go.sizeOf, typeInfo, zeroValue, hi, hz, h1, asInt, asIntOf, hw]

theorem zeroCells_flat (z : List Value) (n : Nat) (hz : 0 < z.length) : (Builtin.zeroCells z.toArray n).toList = (List.replicate n z).flatten := by
  have := made_flat z.toArray n z.length (by simp)
  unfold Builtin.zeroCells
  have h2 : madeCells z.toArray (n * z.length) = (Array.range (n * z.toArray.size)).map fun i => z.toArray[i % z.toArray.size]! := by
    unfold madeCells; simp
  rw [← h2, this]
theorem appZ_run (hTT : TT P tt) {B : Nat → Prop} {ρ : Nat → Nat} {D : Nat → Prop} {a : Act} {w : World} {t' : Tms} {e' : Ents} (hg : Good B G ρ D t' e' a w) (hle : Le e e') (hD : ∀ n, nb ≤ n → n < nb + 16 → ¬ D n)
    {T tx : Nat} {x v : AV} {kq kn : IntKind} {j : Int} {d : Del} {ux : Value} (hx : RV ρ (Stab B ρ e' w) w D x ux) (h : Ok (appZ tt e nb T x j) (v, d)) (U : TypeId) (htx : P.underlying tx = some (.int kn)) :
    ∃ u w', (Builtin.append_ #[T, tx] U #[ux, .int kq j]).run P w = .ok u w' ∧ Post B ρ D e' w nb v d u w' := by
  unfold appZ at h
  have hh := h.opt
  clear h
  obtain ⟨ti, h1, h⟩ := hh
  split at h
  · next el hk =>
    have hh := h.opt
    clear h
    obtain ⟨te, h2, h⟩ := hh
    split at h
    · next k z hz =>
      by_cases hj0 : j = 0
      · rw [if_pos hj0] at h
        obtain ⟨⟨h3, h4⟩, h⟩ := h.req
        cases h.ret
        subst h3 hj0
        obtain ⟨cs0, e0, r0⟩ := hx.inv (by simp)
        subst e0
        cases r0
        obtain ⟨i, hi, hisz, hiby, hiz⟩ := (hTT _ _ h2).info
        rw [hz] at hiz
        exact ⟨_, _, run_append_nil_none w T tx U el i kq kn k ((hTT _ _ h1).uslice hk) htx hi hiz (hisz.trans h4), Post.pure hg.mem (RV.one (cs := [_]) .nils)⟩
      rw [if_neg hj0] at h
      have hh := h.req
      clear h
      obtain ⟨⟨h3, h4, h5, h6, h7⟩, h⟩ := hh
      have hq := h.ret
      cases hq
      subst h3
      obtain ⟨n, rfl⟩ := Int.eq_ofNat_of_zero_le (show 0 ≤ j by omega)
      simp only [Int.ofNat_eq_natCast, Int.toNat_natCast] at h7 ⊢
      obtain ⟨cs0, e0, r0⟩ := hx.inv (by simp)
      subst e0
      cases r0
      have hu := (hTT _ _ h1).uslice hk
      obtain ⟨i, hi, hisz, hiby, hiz⟩ := (hTT _ _ h2).info
      rw [hz] at hiz
      have hn0 : 0 < n := by omega
      have hrun := Go.Lib.run_append_grow_zeros (P := P) w T tx U el i _ kq kn hu htx hi hiz none 0 0 [] (run_firstCells_none w.drew _ _ _ _) n hn0 (by omega) (by omega) (by omega) (by rw [hiby]; omega)
        (by rw [hiby]; exact growslice_fits (by omega) (by rw [Nat.zero_add]; exact h7))
      have hge := grownCap_ge w (0 + n) 0 el
      have hml := grownCap_le_maxLen w (0 + n) 0 el (by simp only [maxLen]; omega)
      simp only [Nat.zero_add] at hrun hge hml
      have hcells : (shape (.int k 0) (conc (.int k 0))).cells = #[Value.int k 0] := rfl
      rw [hcells] at hrun
      refine ⟨_, _, hrun, ?_⟩
      generalize hc : ([] : List Value).toArray ++ Builtin.zeroCells #[Value.int k 0] n ++ Builtin.zeroCells #[Value.int k 0] (grownCap w n 0 el - n) = c
      have g2 : c.size = grownCap w n 0 el := by
        rw [← hc, Array.size_append, Array.size_append]
        have e1 : ∀ m, (Builtin.zeroCells #[Value.int k 0] m).size = m := fun m => by rw [← Array.length_toList, zeroCells_one, List.length_replicate]
        rw [e1, e1]; simp; omega
      have g3 : c.toList.take ((List.replicate n (0 : Int)).map (Value.int k)).length = (List.replicate n (0 : Int)).map (Value.int k) := by
        rw [← hc, Array.toList_append, Array.toList_append, zeroCells_one, zeroCells_one, List.length_map, List.length_replicate, List.map_replicate]
        simp
      obtain ⟨hm1, he1⟩ := hg.mem.same (w' := w.drew) rfl rfl rfl rfl
      obtain ⟨ρ', q1, q2, q3⟩ := hm1.alloc nb (hD nb (Nat.le_refl _) (by omega)) (.cells c el) (.vec el (.ints k (List.replicate n 0))) (e' := ap [(nb, some (.vec el (.ints k (List.replicate n 0))))] e') (fun m => lk_up e' nb (some (.vec el (.ints k (List.replicate n 0)))) m)
        (fun ρ' D' hag hevo => .vec .ints (Cel.new w.drew _ _) g3)
      refine ⟨ρ', _, fun n hn => hn.imp id (fun q => by subst q; omega), ?_, q2, he1.trans q3⟩
      have hb : Rw (w.drew.alloc (.cells c el)) (ρ' nb) c.size := by rw [q1]; exact (Cel.new w.drew _ _).rw
      have := RV.one (RC.sl (S := Stab B ρ' (ap [(nb, some (.vec el (.ints k (List.replicate n 0))))] e') (w.drew.alloc (.cells c el))) (N := fun n => D n ∨ n = nb) (nm := nb) (sz := te.size) (off := 0) (len := n) (.inr rfl) (.inl rfl) hge hml hb (by rw [g2, Nat.zero_add, h4, Nat.mul_one]))
      rw [q1, Nat.zero_mul] at this
      exact this
    · exact h.none.elim
  · -- onto one's own
    next el nm sz off len hk =>
    have hh := h.opt
    clear h
    obtain ⟨te, h2, h⟩ := hh
    split at h
    rotate_left
    · exact h.none.elim
    next k z hz =>
    have hh := h.opt
    clear h
    obtain ⟨y, hy, h⟩ := hh
    split at h
    rotate_left
    · exact h.none.elim
    next T' k' xs =>
    have hh := h.req
    clear h
    obtain ⟨⟨h3, h4, h5, h6, h7, h8, h9, h10, h11, h12⟩, h⟩ := hh
    have hq := h.ret
    cases hq
    subst h3 h4 h6 h7 h9
    obtain ⟨n, rfl⟩ := Int.eq_ofNat_of_zero_le h10
    simp only [Int.ofNat_eq_natCast, Int.toNat_natCast] at h11 h12 ⊢
    have hu := (hTT _ _ h1).uslice hk
    obtain ⟨i, hi, hisz, hiby, hiz⟩ := (hTT _ _ h2).info
    rw [hz] at hiz
    have hi1 : i.size = 1 := hisz.trans h5
    have hnb : n * i.bytes ≤ 140737488355328 := Nat.le_trans (Nat.mul_le_mul_right i.bytes (show n ≤ len + n by omega)) (by rw [hiby]; exact h12)
    obtain ⟨cs0, e0, r0⟩ := hx.inv (by simp)
    subst e0
    cases r0 with
    | sl hn ha hl hm hb hc =>
    rename_i cap b n0
    have hz' := hle _ _ hy
    cases (hg.mem.en _ _ hz').2 with
    | vec hrow0 hb0 htake =>
    rename_i cs c
    cases hrow0
    have hn0 : n0 = c.size := by
      obtain ⟨c1, T1, fr1, e1, e2⟩ := hb
      obtain ⟨fr2, e3, _⟩ := hb0
      rw [e1] at e3; cases e3; exact e2.symm
    subst hn0
    simp only [Nat.zero_add, Nat.mul_one] at hc
    have hcsle : xs.length ≤ c.size := by
      have := congrArg List.length htake; rw [List.length_take, List.length_map] at this; simp at this; omega
    have hbq : ∃ q, b = ⟨ρ nm, q, none⟩ ∧ (q = 0 ∨ cap = 0) := by
      rcases ha with ha | ⟨h0, ha1, ha2⟩
      · exact ⟨0, by simpa using ha, .inl rfl⟩
      · obtain ⟨bb, bo, bs⟩ := b
        simp only at ha1 ha2
        subst ha1 ha2
        exact ⟨bo, rfl, .inr h0⟩
    obtain ⟨q, rfl, hq0⟩ := hbq
    have hct : c.toList.take len = (xs.take len).map (Value.int k') := by
      have e1 : c.toList.take len = (c.toList.take (xs.map (Value.int k')).length).take len := by
        rw [List.take_take]; congr 1; rw [List.length_map]; omega
      rw [e1, htake, List.map_take]
    have hrep : ((xs.take len ++ List.replicate n 0).map (Value.int k')) = (xs.take len).map (Value.int k') ++ List.replicate n (.int k' 0) := by rw [List.map_append, List.map_replicate]
    have hxl : ((xs.take len).map (Value.int k')).length = len := by rw [List.length_map, List.length_take]; omega
    by_cases hroom : len + n ≤ cap
    · have hq : n = 0 ∨ q = 0 := by
        rcases hq0 with h | h
        · exact .inr h
        · left; omega
      have hfit : len + (List.replicate n (Value.int k' 0)).length ≤ c.size := by rw [List.length_replicate]; omega
      have hrun : (Builtin.append_ #[T, tx] U #[.slice (some ⟨ρ nm, q, none⟩) len cap, .int kq n]).run P w = .ok (.slice (some ⟨ρ nm, q, none⟩) (len + n) cap) (w.setRow (ρ nm) (c.toList.take len ++ List.replicate n (Value.int k' 0) ++ c.toList.drop (len + (List.replicate n (Value.int k' 0)).length)).toArray) := by
        rw [← hb0.storeCells hfit]
        have hX := run_append_room_zeros (P := P) w T tx U _ i kq kn k' hu htx hi hiz hi1 (ρ nm) q len cap n hroom (by omega) (by omega)
          (fun j hj => by
            have hj' : q + len + j < c.size := by
              rcases hq with h | h
              · omega
              · omega
            rw [hb0.cell]; simp [hj'])
          (fun j hj => hb0.frozen (by
            rcases hq with h | h
            · omega
            · omega))
        rw [hX]
        congr 1
        rcases hq with h | h
        · subst h; rfl
        · subst h; rw [Nat.zero_add]
      refine ⟨_, _, hrun, ?_⟩
      have hlen' : (c.toList.take len ++ List.replicate n (Value.int k' 0) ++ c.toList.drop (len + (List.replicate n (Value.int k' 0)).length)).length = c.size := by
        simp; omega
      have hheap := hb0.setRow (c' := (c.toList.take len ++ List.replicate n (Value.int k' 0) ++ c.toList.drop (len + (List.replicate n (Value.int k' 0)).length)).toArray) (by simpa using hlen')
      obtain ⟨ρ', q1, q2, q3⟩ := hg.mem.move (nb := nb) (g := ρ nm) (x' := .vec T' (.ints k' (xs.take len ++ List.replicate n 0))) (e' := ap [(nm, none), (nb, some (.vec T' (.ints k' (xs.take len ++ List.replicate n 0))))] e') (w' := w.setRow (ρ nm) (c.toList.take len ++ List.replicate n (Value.int k' 0) ++ c.toList.drop (len + (List.replicate n (Value.int k' 0)).length)).toArray) hz' (hD nb (Nat.le_refl _) (by omega))
        (fun n => by simp only [ap]; rw [lk_up, lk_up]) (fun b _ hb' => setRow_other w _ _ _ hb') (by rw [size_setRow]; exact Nat.le_refl _) rfl rfl rfl
        (fun n hn => hn.setRow (by simpa using hlen') hb0) (.inl rfl)
        (fun ρ' D' hag hevo => .vec .ints hheap (by
          rw [List.toList_toArray, hrep, hct, List.take_append_of_le_length (Nat.le_refl _), List.take_length]))
      refine ⟨ρ', _, fun n hn => hn.imp id (fun q => by subst q; omega), ?_, q2, q3⟩
      rw [← q1]
      refine RV.one (RC.sl (.inr rfl) ?_ (by omega) hm (by rw [q1]; exact hheap.rw) (by rw [Nat.zero_add, Nat.mul_one, hc]; simpa using hlen'.symm))
      rcases hq0 with h | h
      · left; subst h; simp
      · right; exact ⟨h, rfl, rfl⟩
    · have hn0 : 0 < n := by omega
      have hold : (Builtin.firstCells i.size len (.slice (some ⟨ρ nm, q, none⟩) len cap)).run P w.drew = .ok ((xs.take len).map (Value.int k')).toArray w.drew := by
        rw [hi1]
        refine run_firstCells_some w.drew 1 len _ len cap _ (by rw [hxl, Nat.mul_one]) (fun j u hj => ?_)
        have hjl : j < len := by have := (List.getElem?_eq_some_iff.1 hj).1; omega
        rcases hq0 with h | h
        · subst h
          rw [addr_add, Nat.zero_add]
          show w.cell? ⟨ρ nm, j, none⟩ = _
          rw [hb0.cell]
          rw [← hct, List.getElem?_take, if_pos hjl] at hj
          simpa using hj
        · omega
      have hrun := Go.Lib.run_append_grow_zeros (P := P) w T tx U T' i _ kq kn hu htx hi hiz (some ⟨ρ nm, q, none⟩) len cap _ hold n hn0 (by omega) (by omega) (by omega) (by omega)
        (by rw [hiby]; exact growslice_fits (by omega) h12)
      have hge := grownCap_ge w (len + n) cap T'
      have hml := grownCap_le_maxLen w (len + n) cap T' (by simp only [maxLen]; omega)
      have hcells : (shape (.int k' 0) (conc (.int k' 0))).cells = #[Value.int k' 0] := rfl
      rw [hcells] at hrun
      refine ⟨_, _, hrun, ?_⟩
      generalize hcc : ((xs.take len).map (Value.int k')).toArray ++ Builtin.zeroCells #[Value.int k' 0] n ++ Builtin.zeroCells #[Value.int k' 0] (grownCap w (len + n) cap T' - (len + n)) = c2
      have g2 : c2.size = grownCap w (len + n) cap T' := by
        rw [← hcc, Array.size_append, Array.size_append]
        have e1 : ∀ m, (Builtin.zeroCells #[Value.int k' 0] m).size = m := fun m => by rw [← Array.length_toList, zeroCells_one, List.length_replicate]
        rw [e1, e1, List.size_toArray, hxl]; omega
      have g3 : c2.toList.take ((xs.take len ++ List.replicate n 0).map (Value.int k')).length = (xs.take len ++ List.replicate n 0).map (Value.int k') := by
        rw [← hcc, Array.toList_append, Array.toList_append, zeroCells_one, zeroCells_one, hrep, List.toList_toArray, List.take_append_of_le_length (Nat.le_refl _), List.take_length]
      obtain ⟨ρ', q1, q2, q3⟩ := hg.mem.move (nb := nb) (g := w.heap.size) (x' := .vec T' (.ints k' (xs.take len ++ List.replicate n 0))) (e' := ap [(nm, none), (nb, some (.vec T' (.ints k' (xs.take len ++ List.replicate n 0))))] e') (w' := w.drew.alloc (.cells c2 T')) hz' (hD nb (Nat.le_refl _) (by omega))
        (fun n => by simp only [ap]; rw [lk_up, lk_up]) (fun b hb1 _ => alloc_old w.drew _ b hb1) (by show w.heap.size ≤ (w.heap.push _).size; simp) rfl rfl rfl
        (fun n hn => hn.congr (alloc_old w.drew _ _ hn.lt)) (.inr (Nat.le_refl _))
        (fun ρ' D' hag hevo => .vec .ints (Cel.new w.drew _ _) g3)
      refine ⟨ρ', _, fun n hn => hn.imp id (fun q => by subst q; omega), ?_, q2, q3⟩
      have hb2 : Rw (w.drew.alloc (.cells c2 T')) (ρ' nb) c2.size := by rw [q1]; exact (Cel.new w.drew _ _).rw
      rw [← q1]
      exact RV.one (RC.sl (.inr rfl) (.inl (by simp)) hge hml hb2 (by rw [g2, Nat.zero_add, Nat.mul_one]))
  · exact h.none.elim

/-! ### Within a row of aggregates -/

/-- Other elements from a place on. -/
def putL (l : List AV) (p : Nat) (l2 : List AV) : List AV := l.take p ++ l2 ++ l.drop (p + l2.length)
/-- An append of a piece of the same row, for which there is room. -/
def appR (tt : Nat → Option TI) (e : Ents) (T nm sz off len sz2 off2 len2 : Nat) : Q (AV × Del) :=
  opt (tt T) fun ti => match ti.kd with
  | .slice el => opt (tt el) fun te => opt (lk e nm) fun z => match z with
    | .vec T' (.avs s l) => req (s = sz ∧ sz2 = sz ∧ te.size = sz ∧ 0 < sz ∧ off + len + len2 ≤ l.length ∧ off2 + len2 ≤ l.length) (ret (.sl nm sz off (len + len2), [(nm, some (.vec T' (.avs s (putL l (off + len) ((l.drop off2).take len2)))))]))
    | _ => none
  | _ => none
def clrQ (tt : Nat → Option TI) (e : Ents) (ti : TI) (x : AV) : Q (AV × Del) :=
  match ti.kd, x with
  | .slice _, .nils => ret (.tup [], [])
  | .slice el, .sl nm sz off len => opt (tt el) fun te => opt (lk e nm) fun z => match z with
    | .vec T' (.avs s l) => req (s = sz ∧ te.size = sz ∧ 0 < sz ∧ off + len ≤ l.length) (ret (.tup [], [(nm, some (.vec T' (.avs s (putL l off (List.replicate len te.z)))))]))
    | _ => none
  | _, _ => none

/-- Other elements are stored in a row. -/
theorem rowW {B : Nat → Prop} {ρ : Nat → Nat} {D : Nat → Prop} {e : Ents} {w : World} (hm : Mem B ρ D e w) {nm T' s : Nat} {l l2 : List AV} {news : List Value} (hz : lk e nm = some (.vec T' (.avs s l)))
    (h2 : RowC ρ (Stab B ρ e w) w D (.avs s l2) news) {p : Nat} (hp : p + l2.length ≤ l.length) :
    ∃ c c' : Array Value, Cel w (ρ nm) c T' ∧ l.length * s ≤ c.size ∧ p * s + news.length ≤ c.size ∧ w.setCells (ρ nm) (p * s) news = w.setRow (ρ nm) c' ∧ Cel (w.setRow (ρ nm) c') (ρ nm) c' T' ∧ c'.size = c.size ∧
      Mem B ρ D (ap [(nm, some (.vec T' (.avs s (putL l p l2))))] e) (w.setRow (ρ nm) c') ∧ Evol B ρ D e w ρ D (ap [(nm, some (.vec T' (.avs s (putL l p l2))))] e) (w.setRow (ρ nm) c') := by
  cases (hm.en _ _ hz).2 with
  | vec hrow hb0 htake =>
    rename_i cs c
    have hcl := hrow.length
    have hnl := h2.length
    simp only [Row.len, Row.sz] at hcl hnl
    have hcs : cs.length ≤ c.size := by
      have := congrArg List.length htake; rw [List.length_take] at this; simp at this; omega
    have hps : p * s + news.length ≤ cs.length := by
      rw [hcl, hnl, ← Nat.add_mul]; exact Nat.mul_le_mul_right _ hp
    have hc' : (c.toList.take (p * s) ++ news ++ c.toList.drop (p * s + news.length)).toArray.size = c.size := by simp; omega
    have hb' := hb0.setRow hc'
    have hnew : RowC ρ (Stab B ρ e w) w D (.avs s (putL l p l2)) (cs.take (p * s) ++ news ++ cs.drop (p * s + news.length)) := by
      have k1 := hrow.take p
      have k2 := hrow.drop (p + l2.length)
      simp only [Row.take, Row.drop, Row.sz] at k1 k2
      have k3 := (k1.app h2 (u := .avs s (l.take p ++ l2)) (by simp [Row.app])).app k2 (u := .avs s (putL l p l2)) (by simp [Row.app, putL])
      rw [hnl, ← Nat.add_mul]
      exact k3
    have hsp := take_spliceL c.toList cs news (p * s) htake hps
    have hlen : (cs.take (p * s) ++ news ++ cs.drop (p * s + news.length)).length = cs.length := by simp; omega
    obtain ⟨q1, q2⟩ := hm.write (e' := ap [(nm, some (.vec T' (.avs s (putL l p l2))))] e) (w' := w.setRow (ρ nm) _) hz (fun n => lk_up e nm (some (.vec T' (.avs s (putL l p l2)))) n) (fun b hq => setRow_other w _ _ _ hq) (size_setRow w _ _) rfl rfl rfl
      (fun n hn => hn.setRow hc' hb0) (fun hevo => .vec (hnew.mono hevo (fun n hn => ⟨hn, rfl⟩)) hb' (by rw [hlen, List.toList_toArray]; exact hsp))
    exact ⟨c, _, hb0, by omega, by omega, hb0.storeCells (by omega), hb', hc', q1, q2⟩

theorem appR_run (hTT : TT P tt) {B : Nat → Prop} {ρ : Nat → Nat} {D : Nat → Prop} {a : Act} {w : World} {t' : Tms} {e' : Ents} (hg : Good B G ρ D t' e' a w) (hle : Le e e')
    {T tx nm sz off len sz2 off2 len2 el2 : Nat} {v : AV} {d : Del} {ux uy : Value} (hx : RV ρ (Stab B ρ e' w) w D (.sl nm sz off len) ux) (hy : RV ρ (Stab B ρ e' w) w D (.sl nm sz2 off2 len2) uy)
    (h : Ok (appR tt e T nm sz off len sz2 off2 len2) (v, d)) (U : TypeId) (hks : P.underlying tx = some (.slice el2)) :
    ∃ u w', (Builtin.append_ #[T, tx] U #[ux, uy]).run P w = .ok u w' ∧ Post B ρ D e' w nb v d u w' := by
  unfold appR at h
  obtain ⟨ti, h1, h⟩ := h.opt
  split at h
  rotate_left
  · exact h.none.elim
  next el hk =>
  obtain ⟨te, h2, h⟩ := h.opt
  obtain ⟨z, hz, h⟩ := h.opt
  split at h
  rotate_left
  · exact h.none.elim
  next T' s l =>
  obtain ⟨⟨g1, g2, g3, g4, g5, g6⟩, h⟩ := h.req
  cases h.ret
  subst g2 g1
  have hsrc : Ok (srcQ te e (.sl nm s off2 len2)) (.avs s ((l.drop off2).take len2)) := by
    simp only [srcQ, hz]
    exact Exists.intro _ ⟨rfl, ⟨g3.symm, g3.symm, g6⟩, trivial⟩
  obtain ⟨news, ⟨hs, _⟩, hrow, _⟩ := src_run hg hle hy hsrc (tx := tx) (fun ⟨s, h⟩ => by cases h) (fun _ => ⟨_, hks⟩)
  have hl2 : ((l.drop off2).take len2).length = len2 := by rw [List.length_take, List.length_drop]; omega
  simp only [Row.len, hl2] at hs
  obtain ⟨c, c', k1, k2, k3, k4, k5, k6, k7, k8⟩ := rowW hg.mem (hle _ _ hz) hrow (p := off + len) (by rw [hl2]; omega)
  have hu := (hTT _ _ h1).uslice hk
  obtain ⟨i, hi, hisz, hiby, hiz⟩ := (hTT _ _ h2).info
  obtain ⟨cs0, e0, r0⟩ := hx.inv (by simp)
  subst e0
  cases r0 with
  | sl hn ha hl hm hb hc =>
    rename_i cap b n0
    have hn0 : n0 = c.size := by
      obtain ⟨c1, T1, fr1, e1, e2⟩ := hb
      obtain ⟨fr2, e3, _⟩ := k1
      rw [e1] at e3; cases e3; exact e2.symm
    subst hn0
    have hrw : Rw (w.setRow (ρ nm) c') (ρ nm) c.size := by rw [← k6]; exact k5.rw
    have hcap : l.length ≤ off + cap := by
      rw [← hc] at k2
      exact Nat.le_of_mul_le_mul_right k2 g4
    by_cases hc0 : cap = 0
    · have hl0 : len2 = 0 := by omega
      have hnil : news = [] := List.eq_nil_of_length_eq_zero (by rw [hs.newsLen, hl0, Nat.zero_mul])
      have hlen0 : len = 0 := by omega
      subst hnil hl0 hlen0 hc0
      obtain ⟨bb, bo, bs⟩ := b
      have hbs : bb = ρ nm ∧ bs = none := by
        rcases ha with ha | ⟨_, ha1, ha2⟩
        · cases ha; exact ⟨rfl, rfl⟩
        · exact ⟨ha1, ha2⟩
      obtain ⟨rfl, rfl⟩ := hbs
      have hX := run_append_room_src (P := P) w T tx U _ i hu hi (ρ nm) bo 0 0 uy 0 [] (by rw [hisz]; exact hs) (by omega) (fun j hj => by simp at hj) (fun j hj => by simp at hj)
      have hself : w.setCells (ρ nm) (bo + 0 * i.size) [] = w.setRow (ρ nm) c' := by rw [← k4]; rfl
      rw [hself] at hX
      refine ⟨_, _, hX, ρ, D, fun _ h => .inl h, ?_, k7, k8⟩
      exact RV.one (cs := [_]) (RC.sl hn (.inr ⟨rfl, rfl, rfl⟩) (by omega) (by omega) hrw hc)
    · have hb' : b = ⟨ρ nm, off * s, none⟩ := by
        rcases ha with ha | ⟨h0, _⟩
        · exact ha
        · exact absurd h0 hc0
      subst hb'
      have hX := run_append_room_src (P := P) w T tx U _ i hu hi (ρ nm) (off * s) len cap uy len2 news (by rw [hisz]; exact hs) (by omega)
        (fun j hj => by rw [k1.cell]; have : off * s + len * i.size + j < c.size := by rw [hisz, g3, ← Nat.add_mul]; omega
                        simp [this])
        (fun j hj => k1.frozen (by rw [hisz, g3, ← Nat.add_mul]; omega))
      have hself : w.setCells (ρ nm) (off * s + len * i.size) news = w.setRow (ρ nm) c' := by rw [← k4, hisz, g3, ← Nat.add_mul]
      rw [hself] at hX
      refine ⟨_, _, hX, ρ, D, fun _ h => .inl h, ?_, k7, k8⟩
      exact RV.one (cs := [_]) (RC.sl hn (.inl rfl) (by omega) hm hrw hc)

theorem clr_run (hTT : TT P tt) {B : Nat → Prop} {ρ : Nat → Nat} {D : Nat → Prop} {a : Act} {w : World} {t' : Tms} {e' : Ents} (hg : Good B G ρ D t' e' a w) (hle : Le e e')
    {T : Nat} {ti : TI} {x v : AV} {d : Del} {ux : Value} (h1 : TyOK P T ti) (hx : RV ρ (Stab B ρ e' w) w D x ux) (h : Ok (clrQ tt e ti x) (v, d)) (ts : Array TypeId) (hT : ts[0]? = some T) (U : TypeId) :
    ∃ w', (Builtin.clear_ ts U #[ux]).run P w = .ok (.tuple #[]) w' ∧ Post B ρ D e' w nb v d undef w' := by
  unfold clrQ at h
  split at h
  · next el hk =>
    cases h.ret
    obtain ⟨cs0, e0, r0⟩ := hx.inv (by simp)
    subst e0
    cases r0
    have hu := h1.uslice hk
    exact ⟨w, by simp [Builtin.clear_, hT, run_underlying hu, shape, AV.isAgg], Post.pure hg.mem .unit⟩
  · next el nm sz off len hk =>
    obtain ⟨te, h2, h⟩ := h.opt
    obtain ⟨z, hz, h⟩ := h.opt
    split at h
    rotate_left
    · exact h.none.elim
    next T' s l =>
    obtain ⟨⟨g1, g2, g3, g4⟩, h⟩ := h.req
    cases h.ret
    subst g1
    have hu := h1.uslice hk
    have hpl := (hTT _ _ h2).pl
    have hzs := (hTT _ _ h2).zs
    have hrz : ∀ n, RowC ρ (Stab B ρ e' w) w D (.avs s (List.replicate n te.z)) (List.replicate n (conc te.z)).flatten := by
      intro n
      induction n with
      | zero => exact .nil
      | succ n ih => exact .cons (RC.conc _ _ _ _ _ hpl) (hzs.trans g2) ih
    obtain ⟨c, c', k1, k2, k3, k4, k5, k6, k7, k8⟩ := rowW hg.mem (hle _ _ hz) (hrz len) (p := off) (by rw [List.length_replicate]; exact g4)
    obtain ⟨cs0, e0, r0⟩ := hx.inv (by simp)
    subst e0
    cases r0 with
    | sl hn ha hl hm hb hc =>
      rename_i cap b n0
      refine ⟨w.setRow (ρ nm) c', ?_, ρ, D, fun _ h => .inl h, .unit, k7, k8⟩
      by_cases hl0 : len = 0
      · subst hl0
        have : w.setRow (ρ nm) c' = w := by rw [← k4]; rfl
        rw [this]
        simp [Builtin.clear_, hT, run_underlying hu, shape, AV.isAgg]
      · have hb' : b = ⟨ρ nm, off * s, none⟩ := by
          rcases ha with ha | ⟨h0, _⟩
          · exact ha
          · omega
        subst hb'
        have hst := k1.store (P := P) (o := off * s) (vs := (List.replicate len (conc te.z)).flatten) k3 (RowC.one (hrz len))
        have hzc : (shape te.z (conc te.z)).cells = (conc te.z).toArray := (RC.conc ρ (Stab B ρ e' w) w D te.z hpl).cells
        have hzz : (Builtin.zeroCells (conc te.z).toArray len).toList = (List.replicate len (conc te.z)).flatten := zeroCells_flat _ _ (by rw [hzs, g2]; exact g3)
        rw [← k1.storeCells k3, k4] at hst
        match len, hl0 with
        | n + 1, _ =>
          show (Builtin.clear_ ts U #[Value.slice (some ⟨ρ nm, off * s, none⟩) (n + 1) cap]).run P w = _
          simp only [Builtin.clear_, hT, List.getElem?_toArray, List.getElem?_cons_zero, Sem.run_bind, run_underlying hu, Result.andThen_ok, (hTT _ _ h2).run_zero, hzc, hzz, hst, Sem.run_pure]
  · exact h.none.elim

def bltQ (tt : Nat → Option TI) (e : Ents) (nb : Nat) (b : Builtin) (ts : List TypeId) (as : List AV) : Q (AV × Del) :=
  match b, as with
  | .len, [.mp nm] => opt ts[0]? fun T => opt (tt T) fun ti => opt (lk e nm) fun z => match ti.kd, z with
    | .map _ _, .mset s => ret (.int .i64 s.len, [])
    | _, _ => none
  | .len, [x] => opt ts[0]? fun T => opt (tt T) fun ti => bnd (lenF ti.kd x) fun v => ret (v, [])
  | .min, [.int k x, .int _ y] => ret (.int k (if y < x then y else x), [])
  | .max, [.int k x, .int _ y] => ret (.int k (if x < y then y else x), [])
  | .append, [x, y] => match ts with
    | [T, T2] => opt (tt T2) fun t2 => match t2.kd, y with
      | .slice _, .str _ => none
      | .slice _, y => match x, y with
        | .sl nm sz off len, .sl nm2 sz2 off2 len2 => if nm = nm2 then appR tt e T nm sz off len sz2 off2 len2 else appQ tt e nb T (.sl nm sz off len) (.sl nm2 sz2 off2 len2)
        | x, y => appQ tt e nb T x y
      | .str, .str s => appQ tt e nb T x (.str s)
      | .int _, .int _ j => appZ tt e nb T x j
      | _, _ => none
    | _ => none
  | .clear, [x] => opt ts[0]? fun T => opt (tt T) fun ti => clrQ tt e ti x
  | .cap, [.nils] => opt ts[0]? fun T => opt (tt T) fun ti => match ti.kd with
    | .slice _ => ret (.int .i64 0, [])
    | _ => none
  | .copy, [x, y] => match ts with
    | [T, T2] => opt (tt T2) fun t2 => match t2.kd, y with
      | .slice _, .str _ => none
      | .slice _, y => copyQ tt e T x y
      | .str, .str s => copyQ tt e T x (.str s)
      | _, _ => none
    | _ => none
  | _, _ => none
def bltV (tt : Nat → Option TI) (e : Ents) (b : Builtin) (ts : List TypeId) (as : List AV) : Q AV :=
  match b, as with
  | .append, [x, y] => match ts with
    | [T, T2] => opt (tt T2) fun t2 => match t2.kd, y with
      | .slice _, .str _ => none
      | .slice _, y => appV tt e T x y
      | .str, .str s => appV tt e T x (.str s)
      | _, _ => none
    | _ => none
  | _, _ => none

theorem evL_two {B : Nat → Prop} {ρ : Nat → Nat} {D : Nat → Prop} {t' : Tms} {e' : Ents} {a : Act} {w : World} (hg : Good B G ρ D t' e' a w) (ht : Le t t') : ∀ {l : List Operand} {as : List AV}, evL G t l = some as →
    Two (fun (x : Operand) (v : AV) => RV ρ (Stab B ρ e' w) w D v (a.eval x)) l as
  | [], _, h => by cases h; exact .nil
  | x :: l, _, h => by
    simp only [evL, Option.bind_eq_some_iff, Option.map_eq_some_iff] at h
    obtain ⟨v, h1, vs, h2, rfl⟩ := h
    exact .cons (ev_sound hg ht h1) (evL_two hg ht h2)

theorem exec_blt {b : Builtin} {xs : Array Operand} {ts : Array TypeId} {a : Act} {w : World} {us : List Value} (hu : xs.toList.map a.eval = us) : ∃ cf : Array Bool,
    (execOp a.eval ⟨dst, .call { callee := .builtin b, args := xs, argTypes := ts }, ty, pos, after, gd⟩).run P w = (builtin b ts ty cf us.toArray).run P w := by
  have : xs.map a.eval = us.toArray := by rw [← hu, ← List.map_toArray, Array.toArray_toList]
  refine ⟨xs.map fun | .const _ => true | _ => false, ?_⟩
  simp only [execOp, resolve, Sem.run_bind, Sem.run_pure, Result.andThen_ok, invoke, this]
  rfl

theorem kind2 (hTT : TT P tt) {T2 : Nat} {t2 : TI} {y : AV} (h2 : tt T2 = some t2) {el : Nat} (hk : t2.kd = .slice el) (hy : ∀ s, y ≠ .str s) :
    ((∃ s, y = .str s) → P.underlying T2 = some .string) ∧ ((∀ s, y ≠ .str s) → ∃ e', P.underlying T2 = some (.slice e')) :=
  ⟨fun ⟨s, hs⟩ => absurd hs (hy s), fun _ => ⟨el, (hTT _ _ h2).uslice hk⟩⟩
theorem kind2s (hTT : TT P tt) {T2 : Nat} {t2 : TI} {s : ByteArray} (h2 : tt T2 = some t2) (hk : t2.kd = .str) :
    ((∃ s', AV.str s = .str s') → P.underlying T2 = some .string) ∧ ((∀ s', AV.str s ≠ .str s') → ∃ e', P.underlying T2 = some (.slice e')) :=
  ⟨fun _ => (hTT _ _ h2).ustr hk, fun h => absurd rfl (h s)⟩

theorem sound_blt (hTT : TT P tt) {b : Builtin} {xs : Array Operand} {ts : Array TypeId} {as : List AV} {v : AV} {d : Del} (has : evL G t xs.toList = some as) (h : Ok (bltQ tt e nb b ts.toList as) (v, d)) :
    OpSound P G t e nb ⟨dst, .call { callee := .builtin b, args := xs, argTypes := ts }, ty, pos, after, gd⟩ v d := by
  intro B ρ D t' e' a w ht hle hg hD
  have h2 := evL_two hg ht has
  clear has
  have one : ∀ x, as = [x] → ∃ u, xs.toList.map a.eval = [u] ∧ RV ρ (Stab B ρ e' w) w D x u := by
    rintro x rfl
    generalize xs.toList = l at h2
    cases h2 with
    | cons h hs => cases hs; exact ⟨_, rfl, h⟩
  have two : ∀ x y, as = [x, y] → ∃ u u', xs.toList.map a.eval = [u, u'] ∧ RV ρ (Stab B ρ e' w) w D x u ∧ RV ρ (Stab B ρ e' w) w D y u' := by
    rintro x y rfl
    generalize xs.toList = l at h2
    cases h2 with
    | cons h hs => cases hs with
      | cons h' hs => cases hs; exact ⟨_, _, rfl, h, h'⟩
  unfold bltQ at h
  split at h
  · next nm =>
    have hh := h.opt
    clear h
    obtain ⟨T, hT, h⟩ := hh
    have hh := h.opt
    clear h
    obtain ⟨ti, hti, h⟩ := hh
    have hh := h.opt
    clear h
    obtain ⟨z, hz, h⟩ := hh
    split at h
    · next k0 v0 s hk =>
      cases h.ret
      obtain ⟨u, hu, hr⟩ := one _ rfl
      obtain ⟨cf, he⟩ := exec_blt (P := P) (b := .len) (ts := ts) (dst := dst) (ty := ty) (pos := pos) (after := after) (gd := gd) (w := w) hu
      obtain ⟨cs, hm, hr⟩ := hr.inv (by simp)
      cases hr with
      | mp hn =>
      have hent := (hg.mem.en nm _ (hle _ _ hz)).2
      cases hent with
      | mset hs hb =>
      rename_i es clock
      have hlen : es.size = s.len := by
        have := congrArg List.length hs.1
        rw [Mp.ents_len] at this
        simpa using this
      have hts : ts[0]? = some T := by simpa using hT
      have hm' : u = .map (some (ρ nm)) := hm
      refine .value (x := .int .i64 s.len) (w' := w) ?_ (Post.pure hg.mem .ofInt)
      rw [he, hm']
      simp [builtin, Builtin.len_, hts, run_underlying ((hTT _ _ hti).umap hk), MapKept.run_getObj_map hb, goInt, hlen]
    · exact h.none.elim
  · next x hx =>
    have hh := h.opt
    clear h
    obtain ⟨T, hT, h⟩ := hh
    have hh := h.opt
    clear h
    obtain ⟨ti, hti, h⟩ := hh
    obtain ⟨v', h3, h⟩ := h.bnd
    cases h.ret
    obtain ⟨u, hu, hr⟩ := one x rfl
    obtain ⟨cf, he⟩ := exec_blt (P := P) (b := .len) (ts := ts) (dst := dst) (ty := ty) (pos := pos) (after := after) (gd := gd) (w := w) hu
    obtain ⟨r, k1, k2⟩ := lenF_run (hTT _ _ hti) hr h3 ts (by simpa using hT) cf ty
    exact .value (by rw [he]; exact k1) (Post.pure hg.mem k2)
  · next k x k' y =>
    cases h.ret
    obtain ⟨u, u', hu, hr, hr'⟩ := two _ _ rfl
    obtain ⟨cf, he⟩ := exec_blt (P := P) (b := .min) (ts := ts) (dst := dst) (ty := ty) (pos := pos) (after := after) (gd := gd) (w := w) hu
    refine .value (x := .int k (if y < x then y else x)) (w' := w) ?_ (Post.pure hg.mem .ofInt)
    rw [he, hr.int_inv, hr'.int_inv]
    simp only [builtin, Sem.run_bind, run_min_int2, Result.andThen_ok, Sem.run_pure]
  · next k x k' y =>
    cases h.ret
    obtain ⟨u, u', hu, hr, hr'⟩ := two _ _ rfl
    obtain ⟨cf, he⟩ := exec_blt (P := P) (b := .max) (ts := ts) (dst := dst) (ty := ty) (pos := pos) (after := after) (gd := gd) (w := w) hu
    refine .value (x := .int k (if x < y then y else x)) (w' := w) ?_ (Post.pure hg.mem .ofInt)
    rw [he, hr.int_inv, hr'.int_inv]
    simp only [builtin, Sem.run_bind, run_max_int2, Result.andThen_ok, Sem.run_pure, gt_iff_lt]
  · next x y =>
    obtain ⟨u, u', hu, hr, hr'⟩ := two _ _ rfl
    obtain ⟨cf, he⟩ := exec_blt (P := P) (b := .append) (ts := ts) (dst := dst) (ty := ty) (pos := pos) (after := after) (gd := gd) (w := w) hu
    split at h
    · next T T2 hts =>
      have hts' : ts = #[T, T2] := by rw [← Array.toArray_toList (xs := ts), hts]
      have fin : Ok (appQ tt e nb T x y) (v, d) → (((∃ s, y = .str s) → P.underlying T2 = some .string) ∧ ((∀ s, y ≠ .str s) → ∃ e', P.underlying T2 = some (.slice e'))) →
          Runs P ⟨dst, .call { callee := .builtin .append, args := xs, argTypes := ts }, ty, pos, after, gd⟩ a w (Post B ρ D e' w nb v d) := by
        intro h hk
        obtain ⟨r, w', k1, k2⟩ := app_run hTT hg hle hD hr hr' h ty hk.1 hk.2
        refine .value (x := r) (w' := w') ?_ k2
        rw [he, hts']
        simp only [builtin, Sem.run_bind, k1, Result.andThen_ok, Sem.run_pure]
      have hh := h.opt
      clear h
      obtain ⟨t2, ht2, h⟩ := hh
      split at h
      · exact h.none.elim
      · next el hk hns =>
        split at h
        · rename_i nm sz off len nm2 sz2 off2 len2
          by_cases hq : nm = nm2
          · rw [if_pos hq] at h
            subst hq
            obtain ⟨r, w', k1, k2⟩ := appR_run (nb := nb) hTT hg hle hr hr' h ty ((hTT _ _ ht2).uslice hk)
            refine .value (x := r) (w' := w') ?_ k2
            rw [he, hts']
            simp only [builtin, Sem.run_bind, k1, Result.andThen_ok, Sem.run_pure]
          · rw [if_neg hq] at h
            exact fin h (kind2 hTT ht2 hk (fun s hs => hns s hs))
        · exact fin h (kind2 hTT ht2 hk (fun s hs => hns s hs))
      · next s hk => exact fin h (kind2s hTT ht2 hk)
      · next kn kq j hk =>
        rw [hr'.int_inv] at he
        obtain ⟨r, w', k1, k2⟩ := appZ_run hTT hg hle hD (kq := kq) hr h ty ((hTT _ _ ht2).uint hk)
        refine .value (x := r) (w' := w') ?_ k2
        rw [he, hts']
        simp only [builtin, Sem.run_bind, k1, Result.andThen_ok, Sem.run_pure]
      · exact h.none.elim
    · exact h.none.elim
  · next x =>
    have hh := h.opt
    clear h
    obtain ⟨T, hT, h⟩ := hh
    have hh := h.opt
    clear h
    obtain ⟨ti, hti, h⟩ := hh
    obtain ⟨u, hu, hr⟩ := one x rfl
    obtain ⟨cf, he⟩ := exec_blt (P := P) (b := .clear) (ts := ts) (dst := dst) (ty := ty) (pos := pos) (after := after) (gd := gd) (w := w) hu
    obtain ⟨w', k1, k2⟩ := clr_run (nb := nb) hTT hg hle (hTT _ _ hti) hr h ts (by simpa using hT) ty
    refine .value (x := .tuple #[]) (w' := w') ?_ k2
    rw [he]
    simp only [builtin, Sem.run_bind, k1, Result.andThen_ok, Sem.run_pure]
  · have hh := h.opt
    clear h
    obtain ⟨T, hT, h⟩ := hh
    have hh := h.opt
    clear h
    obtain ⟨ti, hti, h⟩ := hh
    split at h
    · next el hk =>
      cases h.ret
      obtain ⟨u, hu, hr⟩ := one _ rfl
      obtain ⟨cs0, e0, r0⟩ := hr.inv (by simp)
      subst e0
      cases r0
      obtain ⟨cf, he⟩ := exec_blt (P := P) (b := .cap) (ts := ts) (dst := dst) (ty := ty) (pos := pos) (after := after) (gd := gd) (w := w) hu
      refine .value (x := .int .i64 0) (w' := w) ?_ (Post.pure hg.mem .ofInt)
      have hT' : ts[0]? = some T := by simpa using hT
      rw [he]
      simp [builtin, Builtin.cap_, hT', run_underlying ((hTT _ _ hti).uslice hk), shape, AV.isAgg, goInt]
    · exact h.none.elim
  · next x y =>
    obtain ⟨u, u', hu, hr, hr'⟩ := two _ _ rfl
    obtain ⟨cf, he⟩ := exec_blt (P := P) (b := .copy) (ts := ts) (dst := dst) (ty := ty) (pos := pos) (after := after) (gd := gd) (w := w) hu
    split at h
    · next T T2 hts =>
      have hts' : ts = #[T, T2] := by rw [← Array.toArray_toList (xs := ts), hts]
      have fin : Ok (copyQ tt e T x y) (v, d) → (((∃ s, y = .str s) → P.underlying T2 = some .string) ∧ ((∀ s, y ≠ .str s) → ∃ e', P.underlying T2 = some (.slice e'))) →
          Runs P ⟨dst, .call { callee := .builtin .copy, args := xs, argTypes := ts }, ty, pos, after, gd⟩ a w (Post B ρ D e' w nb v d) := by
        intro h hk
        obtain ⟨r, w', k1, k2⟩ := copy_run (nb := nb) hTT hg hle hr hr' h ty hk.1 hk.2
        refine .value (x := r) (w' := w') ?_ k2
        rw [he, hts']
        simp only [builtin, Sem.run_bind, k1, Result.andThen_ok, Sem.run_pure]
      have hh := h.opt
      clear h
      obtain ⟨t2, ht2, h⟩ := hh
      split at h
      · exact h.none.elim
      · next el hk hns => exact fin h (kind2 hTT ht2 hk (fun s hs => hns s hs))
      · next s hk => exact fin h (kind2s hTT ht2 hk)
      · exact h.none.elim
    · exact h.none.elim
  · exact h.none.elim

theorem sound_bltV (hTT : TT P tt) {b : Builtin} {xs : Array Operand} {ts : Array TypeId} {as : List AV} {v : AV} (has : evL G t xs.toList = some as) (h : Ok (bltV tt e b ts.toList as) v) :
    OpSound P G t e nb ⟨dst, .call { callee := .builtin b, args := xs, argTypes := ts }, ty, pos, after, gd⟩ v [] := by
  intro B ρ D t' e' a w ht hle hg hD
  have h2 := evL_two hg ht has
  clear has
  have two : ∀ x y, as = [x, y] → ∃ u u', xs.toList.map a.eval = [u, u'] ∧ RV ρ (Stab B ρ e' w) w D x u ∧ RV ρ (Stab B ρ e' w) w D y u' := by
    rintro x y rfl
    generalize xs.toList = l at h2
    cases h2 with
    | cons h hs => cases hs with
      | cons h' hs => cases hs; exact ⟨_, _, rfl, h, h'⟩
  unfold bltV at h
  split at h
  · next x y =>
    obtain ⟨u, u', hu, hr, hr'⟩ := two _ _ rfl
    obtain ⟨cf, he⟩ := exec_blt (P := P) (b := .append) (ts := ts) (dst := dst) (ty := ty) (pos := pos) (after := after) (gd := gd) (w := w) hu
    split at h
    · next T T2 hts =>
      have hts' : ts = #[T, T2] := by rw [← Array.toArray_toList (xs := ts), hts]
      have fin : Ok (appV tt e T x y) v → (((∃ s, y = .str s) → P.underlying T2 = some .string) ∧ ((∀ s, y ≠ .str s) → ∃ e', P.underlying T2 = some (.slice e'))) →
          Runs P ⟨dst, .call { callee := .builtin .append, args := xs, argTypes := ts }, ty, pos, after, gd⟩ a w (Post B ρ D e' w nb v []) := by
        intro h hk
        obtain ⟨r, w', k1, k2⟩ := appV_run (nb := nb) hTT hg hle hr hr' h ty hk.1 hk.2
        refine .value (x := r) (w' := w') ?_ k2
        rw [he, hts']
        simp only [builtin, Sem.run_bind, k1, Result.andThen_ok, Sem.run_pure]
      have hh := h.opt
      clear h
      obtain ⟨t2, ht2, h⟩ := hh
      split at h
      · exact h.none.elim
      · next el hk hns => exact fin h (kind2 hTT ht2 hk (fun s hs => hns s hs))
      · next s hk => exact fin h (kind2s hTT ht2 hk)
      · exact h.none.elim
    · exact h.none.elim
  · exact h.none.elim
end
end Sx

/- Conversions together. -/
set_option linter.unusedVariables false
set_option linter.unusedSimpArgs false
namespace Sx
open Go

def cvQ (tt : Nat → Option TI) (e : Ents) (T1 T2 : Nat) (t1 t2 : TI) (v : AV) : Q AV :=
  match t1.kd, t2.kd, v with
  | .int _, .int k, .int _ n => ret (.int k (k.wrap n))
  | .str, .str, .str s => ret (.str s)
  | .slice el, .slice _, .sl nm sz off len => opt (tt el) fun te => match te.kd with
    | .int .u8 => opt (lk e nm) fun _ => req (T1 = T2) (ret (.sl nm sz off len))
    | _ => none
  | _, _, v => s2bQ tt e t1 t2 v

theorem heap_freeze {w : World} {b n : Nat} {c : Array Value} {T : TypeId} (h : Cel w b c T) (hn : n = c.size) : Cel (w.freeze ⟨b, n, none⟩ 1) b c T ∧ (∀ b' : Nat, b' ≠ b → (w.freeze ⟨b, n, none⟩ 1).heap[b']? = w.heap[b']?) ∧ (w.freeze ⟨b, n, none⟩ 1).heap.size = w.heap.size := by
  subst hn
  obtain ⟨fr, h, hfr⟩ := h
  refine ⟨⟨(c.size, c.size + 1), ?_, .inr rfl⟩, fun b' hb => ?_, ?_⟩
  · unfold World.freeze
    rw [if_neg (by decide)]
    simp only [Array.getElem?_modify, h]
    rcases hfr with rfl | rfl
    · simp
    · simp
  · unfold World.freeze
    rw [if_neg (by decide)]
    simp only [Array.getElem?_modify]
    rw [if_neg (Ne.symm hb)]
  · unfold World.freeze
    rw [if_neg (by decide)]
    simp

section
variable {P : Program} {tt : Nat → Option TI} {G : Nat → Option AV} {t : Tms} {e : Ents} {nb : Nat} {dst : Option Tmp} {ty : TypeId} {pos : String} {after : Array Edge} {gd : Option (Nat × Bool)}

theorem sound_cv (hTT : TT P tt) {T1 T2 : Nat} {t1 t2 : TI} {x : Operand} {p v : AV} (h1 : TyOK P T1 t1) (h2 : TyOK P T2 t2) (hx : ev G t x = some p) (h : Ok (cvQ tt e T1 T2 t1 t2 p) v) :
    OpSound P G t e nb ⟨dst, .convert T1 T2 x, ty, pos, after, gd⟩ v [] := by
  unfold cvQ at h
  split at h
  · next hk1 hk2 => cases h.ret; exact sound_conv_int h1 h2 hk1 hk2 hx
  · next hk1 hk2 =>
    cases h.ret
    intro B ρ D t' e' a w ht hle hg _
    have hv := (ev_sound hg ht hx).str_inv
    refine .value (x := .string _) (w' := w) ?_ (Post.pure hg.mem .ofStr)
    simp [execOp, hv, convert, run_underlying (h1.ustr hk1), run_underlying (h2.ustr hk2)]
  · next el el2 nm sz off len hk1 hk2 =>
    have hh := h.opt
    clear h
    obtain ⟨te, he, h⟩ := hh
    split at h
    · next hk =>
      have hh := h.opt
      clear h
      obtain ⟨z, hz, h⟩ := hh
      obtain ⟨hT, h⟩ := h.req
      cases h.ret
      subst hT
      intro B ρ D t' e' a w ht hle hg _
      obtain ⟨cs, hu, hr⟩ := (ev_sound hg ht hx).inv (by simp)
      cases hr with
      | sl hn ha hl hm hb hc =>
      rename_i cap ad n0
      have hze := hle _ _ hz
      have hent := (hg.mem.en _ _ hze).2
      have hcel : ∃ c T, Cel w (ρ nm) c T := by
        cases hent with
        | obj _ hb => exact ⟨_, _, hb⟩
        | vec _ hb _ => exact ⟨_, _, hb⟩
        | mset _ hb2 => obtain ⟨c1, T1, fr1, e1, _⟩ := hb; rw [e1] at hb2; cases hb2
      obtain ⟨c, T, hcel⟩ := hcel
      have hab : ad.block = ρ nm := by
        rcases ha with rfl | ⟨_, h, _⟩
        · rfl
        · exact h
      obtain ⟨f1, f2, f3⟩ := heap_freeze hcel rfl
      have hsh : w.shape? (ρ nm) = some (T, c.size) := by
        obtain ⟨fr, h, _⟩ := hcel
        simp [World.shape?, h]
      have hrun : (convert T1 T1 (.slice (some ad) len cap)).run P w = .ok (.slice (some ad) len cap) (w.freeze ⟨ρ nm, c.size, none⟩ 1) := by
        simp [convert, run_underlying (h1.uslice hk1), run_underlying ((hTT _ _ he).uint hk), markStringish, hab, hsh]
      have hRw : ∀ n, Rw w (ρ nm) n → Rw (w.freeze ⟨ρ nm, c.size, none⟩ 1) (ρ nm) n := by
        rintro n ⟨c1, T1, fr1, e1, e2⟩
        obtain ⟨fr, h, _⟩ := hcel
        rw [h] at e1; cases e1
        rw [← e2]; exact f1.rw
      obtain ⟨q1, q2⟩ := hg.mem.write (e' := e') (w' := w.freeze ⟨ρ nm, c.size, none⟩ 1) (x' := z) hze (fun n => by split <;> simp_all) f2 f3 rfl rfl rfl hRw (fun hevo => by
        cases hent with
        | obj hr hb =>
          obtain ⟨rfl, rfl⟩ := hcel.inj hb
          exact .obj (hr.mono hevo D (fun n hn => ⟨hn, rfl⟩)) f1
        | vec hr hb hc =>
          obtain ⟨rfl, rfl⟩ := hcel.inj hb
          exact .vec (hr.mono hevo (fun n hn => ⟨hn, rfl⟩)) f1 hc
        | mset _ hb2 => obtain ⟨fr, h, _⟩ := hcel; rw [h] at hb2; cases hb2)
      refine .value (x := .slice (some ad) len cap) (w' := w.freeze ⟨ρ nm, c.size, none⟩ 1) ?_ ⟨ρ, D, fun n h => .inl h, ?_, q1, q2⟩
      · have hu' : a.eval x = .slice (some ad) len cap := hu
        simp only [execOp, hu', Sem.run_bind, hrun, Result.andThen_ok, Sem.run_pure]
      · exact .one (cs := [_]) (.sl hn ha hl hm (hRw _ hb) hc)
    · exact h.none.elim
  · exact s2b_sound hTT h1 h2 hx h
end
end Sx
