/- Equality, choices, lengths, literals. -/
import Derived.Test.YtakgcmponelbeaaDoorSxG
import Derived.Test.YtakgcmponelbeaaDoorSxJ
import Derived.ChangeKeysEq
import Derived.Laws.StructEq
import Derived.Laws.Small
import Derived.Laws.Strings
import Derived.Laws.Cover3
set_option linter.unusedVariables false
set_option linter.unusedSimpArgs false
namespace Sx
open Go

/-! ### Parts that are written -/

theorem stC_cells {ρ : Nat → Nat} {S : Nat → Prop} {w : World} {N : Nat → Prop} {ti : TI} {cs ds : List AV} {vals vs : List Value} {o i : Nat} {v : AV} (hr : RC ρ S w N (.agg cs) vals) (hv : RC ρ S w N v vs) (h : Ok (stC ti cs o i v) ds) :
    vs.length = ti.size ∧ o + i + vs.length ≤ vals.length ∧ RC ρ S w N (.agg ds) (vals.take (o + i) ++ vs ++ vals.drop (o + i + vs.length)) := by
  unfold stC at h
  split at h
  · next hag =>
    obtain ⟨⟨h0, hva, hsz⟩, hl5⟩ := h.req
    subst h0
    obtain ⟨ds, hd, hl6⟩ := hl5.opt
    obtain ⟨es, he, hl7⟩ := hl6.opt
    have := hl7.ret; subst this
    have hlen := hv.comps.szL hsz
    obtain ⟨h3, h4⟩ := hr.take hd
    obtain ⟨h5, h6⟩ := hr.drop he
    refine ⟨hlen, by simp only [Nat.add_zero, hlen]; omega, ?_⟩
    simp only [Nat.add_zero, hlen, List.append_assoc]
    exact h3.append (hv.comps.append h5)
  · next hag =>
    obtain ⟨⟨h1s, hva, hvt⟩, hl5⟩ := h.req
    obtain ⟨u, rfl⟩ : ∃ u, vs = [u] := by
      cases hv <;> first | exact ⟨_, rfl⟩ | (simp [AV.isAgg] at hva)
    obtain ⟨hlt, hr2⟩ := RC.stS hv hr hl5
    refine ⟨by simp [h1s], by simp; omega, ?_⟩
    rw [List.set_eq_take_append_cons_drop, if_pos hlt] at hr2
    simpa using hr2

theorem fold_set (off : Nat) : ∀ (vs : List Value) (j : Nat) (c : Array Value), off + j + vs.length ≤ c.size →
    (vs.zipIdx j).foldl (fun cs (x : Value × Nat) => cs.setIfInBounds (off + x.2) x.1) c = (c.toList.take (off + j) ++ vs ++ c.toList.drop (off + j + vs.length)).toArray
  | [], j, c, h => by simp
  | v :: vs, j, c, h => by
    simp only [List.zipIdx_cons, List.foldl_cons]
    rw [fold_set off vs (j + 1) _ (by simp at h ⊢; omega)]
    congr 1
    simp only [Array.toList_setIfInBounds, List.length_cons]
    have hl : off + j < c.toList.length := by simp at h ⊢; omega
    rw [List.set_eq_take_append_cons_drop, if_pos hl]
    have e1 : (List.take (off + j) c.toList ++ v :: List.drop (off + j + 1) c.toList).take (off + (j + 1)) = List.take (off + j) c.toList ++ [v] := by
      rw [List.take_append, List.take_of_length_le (by simp; omega)]
      have : off + (j + 1) - (List.take (off + j) c.toList).length = 1 := by simp at hl ⊢; omega
      rw [this]; rfl
    have e2 : (List.take (off + j) c.toList ++ v :: List.drop (off + j + 1) c.toList).drop (off + (j + 1) + vs.length) = c.toList.drop (off + j + (vs.length + 1)) := by
      rw [List.drop_append, List.drop_of_length_le (by simp; omega)]
      have : off + (j + 1) + vs.length - (List.take (off + j) c.toList).length = vs.length + 1 := by simp at hl ⊢; omega
      rw [this, show off + j + (vs.length + 1) = off + j + 1 + vs.length by omega]
      simp
    rw [e1, e2]
    simp

/-- One part. -/
theorem fill_step {place : Nat → Option (Nat × Nat)} {cells : Array Value} {i off sz : Nat} {v : Value} {rest : List (Nat × Value)} (hp : place i = some (off, sz)) {vs : List Value} (hv : v.cells = vs.toArray) (hz : vs.length = sz) (hb : off + vs.length ≤ cells.size) :
    Instr.fill place cells ((i, v) :: rest) = Instr.fill place (cells.toList.take off ++ vs ++ cells.toList.drop (off + vs.length)).toArray rest := by
  have h1 : ¬ (vs.toArray.size ≠ sz ∨ off + vs.toArray.size > cells.size) := by simp; omega
  have := fold_set off vs 0 cells (by simpa using hb)
  simp only [Nat.add_zero] at this
  rw [Instr.fill, hp]
  simp only [hv]
  have h2 : (decide (vs.toArray.size ≠ sz) || decide (off + vs.toArray.size > cells.size)) = false := by simp; omega
  rw [if_neg (by simpa using h1)]
  congr 1
  rw [← this, ← Array.foldl_toList]
  congr 1
  simp [Array.toList_zipIdx]

inductive Two {α β : Type} (R : α → β → Prop) : List α → List β → Prop
  | nil : Two R [] []
  | cons {a b l l'} (h : R a b) (hs : Two R l l') : Two R (a :: l) (b :: l')

def evP (G : Nat → Option AV) (t : Tms) : List (Nat × Operand) → Option (List (Nat × AV))
  | [] => some []
  | (i, x) :: l => (ev G t x).bind fun v => (evP G t l).map ((i, v) :: ·)
def bldA (te : TI) : List (Nat × AV) → List AV → Q (List AV)
  | [], cs => ret cs
  | (i, v) :: l, cs => req (v.isTup = false) (bnd (stC te cs (i * te.size) 0 v) (bldA te l))
def bldS (tt : Nat → Option TI) (fs : List (Nat × Nat)) : List (Nat × AV) → List AV → Q (List AV)
  | [], cs => ret cs
  | (i, v) :: l, cs => req (v.isTup = false) (opt fs[i]? fun q => opt (tt q.2) fun tf => bnd (stC tf cs q.1 0 v) (bldS tt fs l))

section
variable {P : Program} {tt : Nat → Option TI} {G : Nat → Option AV} {t : Tms} {e : Ents} {nb : Nat} {dst : Option Tmp} {ty : TypeId} {pos : String} {after : Array Edge} {gd : Option (Nat × Bool)}

theorem evP_sound {B : Nat → Prop} {ρ : Nat → Nat} {D : Nat → Prop} {t' : Tms} {e' : Ents} {a : Act} {w : World} (hg : Good B G ρ D t' e' a w) (ht : Le t t') : ∀ {l : List (Nat × Operand)} {vs : List (Nat × AV)}, evP G t l = some vs →
    Two (fun (p : Nat × Operand) (q : Nat × AV) => p.1 = q.1 ∧ RV ρ (Stab B ρ e' w) w D q.2 (a.eval p.2)) l vs
  | [], _, h => by cases h; exact .nil
  | (i, x) :: l, _, h => by
    simp only [evP, Option.bind_eq_some_iff, Option.map_eq_some_iff] at h
    obtain ⟨v, h1, vs, h2, rfl⟩ := h
    exact .cons ⟨rfl, ev_sound hg ht h1⟩ (evP_sound hg ht h2)

theorem bldA_run {ρ : Nat → Nat} {S : Nat → Prop} {w : World} {N : Nat → Prop} {te : TI} {f : Operand → Value} : ∀ {l : List (Nat × Operand)} {vs : List (Nat × AV)} {cs ds : List AV} {vals : List Value},
    Two (fun (p : Nat × Operand) (q : Nat × AV) => p.1 = q.1 ∧ RV ρ S w N q.2 (f p.2)) l vs → RC ρ S w N (.agg cs) vals → Ok (bldA te vs cs) ds →
    ∃ us : List Value, Instr.fill (fun i => some (i * te.size, te.size)) vals.toArray (l.map fun p => (p.1, f p.2)) = some us.toArray ∧ RC ρ S w N (.agg ds) us
  | _, _, _, _, vals, .nil, hr, h => by cases h.ret; exact ⟨vals, rfl, hr⟩
  | _, _, _, _, vals, .cons (a := p) (b := q) h1 h2, hr, h => by
    obtain ⟨i, x⟩ := p
    obtain ⟨i', v⟩ := q
    obtain ⟨rfl, hv⟩ := h1
    simp only [bldA] at h
    obtain ⟨ht, h⟩ := h.req
    obtain ⟨cs', h3, h4⟩ := h.bnd
    obtain ⟨ws, hw1, hw2⟩ := hv.inv (fun l hl => by subst hl; cases ht)
    obtain ⟨k1, k2, k3⟩ := stC_cells hr hw2 h3
    simp only [Nat.add_zero] at k2 k3
    obtain ⟨us, k4, k5⟩ := bldA_run h2 k3 h4
    refine ⟨us, ?_, k5⟩
    rw [List.map_cons, fill_step (off := i * te.size) (sz := te.size) rfl (by rw [hw1]; exact hw2.cells) k1 (by simpa using k2)]
    simpa using k4
theorem bldS_run {ρ : Nat → Nat} {S : Nat → Prop} {w : World} {N : Nat → Prop} {fs : List (Nat × Nat)} {f : Operand → Value} {place : Nat → Option (Nat × Nat)} (hpl : ∀ i q tf, fs[i]? = some q → tt q.2 = some tf → place i = some (q.1, tf.size)) :
    ∀ {l : List (Nat × Operand)} {vs : List (Nat × AV)} {cs ds : List AV} {vals : List Value},
    Two (fun (p : Nat × Operand) (q : Nat × AV) => p.1 = q.1 ∧ RV ρ S w N q.2 (f p.2)) l vs → RC ρ S w N (.agg cs) vals → Ok (bldS tt fs vs cs) ds →
    ∃ us : List Value, Instr.fill place vals.toArray (l.map fun p => (p.1, f p.2)) = some us.toArray ∧ RC ρ S w N (.agg ds) us
  | _, _, _, _, vals, .nil, hr, h => by cases h.ret; exact ⟨vals, rfl, hr⟩
  | _, _, _, _, vals, .cons (a := p) (b := q) h1 h2, hr, h => by
    obtain ⟨i, x⟩ := p
    obtain ⟨i', v⟩ := q
    obtain ⟨rfl, hv⟩ := h1
    simp only [bldS] at h
    obtain ⟨ht, h⟩ := h.req
    obtain ⟨q, hq, h⟩ := h.opt
    obtain ⟨tf, htf, h⟩ := h.opt
    obtain ⟨cs', h3, h4⟩ := h.bnd
    obtain ⟨ws, hw1, hw2⟩ := hv.inv (fun l hl => by subst hl; cases ht)
    obtain ⟨k1, k2, k3⟩ := stC_cells hr hw2 h3
    simp only [Nat.add_zero] at k2 k3
    obtain ⟨us, k4, k5⟩ := bldS_run hpl h2 k3 h4
    refine ⟨us, ?_, k5⟩
    rw [List.map_cons, fill_step (off := q.1) (sz := tf.size) (hpl i q tf hq htf) (by rw [hw1]; exact hw2.cells) k1 (by simpa using k2)]
    simpa using k4

def bldF (tt : Nat → Option TI) (ti : TI) (vs : List (Nat × AV)) : Q AV :=
  match ti.kd with
  | .arr n el => opt (tt el) fun te => bnd (bldA te vs (comps ti.z)) fun cs => ret (.agg cs)
  | .strct fs => req (fs.all (fun q => (tt q.2).isSome) = true) (bnd (bldS tt fs vs (comps ti.z)) fun cs => ret (.agg cs))
  | _ => none

theorem sizes_run (hTT : TT P tt) (w : World) : ∀ (fields : List Field), (fields.map fun (f : Field) => (f.offset, f.type)).all (fun (q : Nat × Nat) => (tt q.2).isSome) = true →
    ∃ l : List (Nat × Nat), (fields.mapM fun (f : Field) => do pure (f.offset, ← sizeOf f.type) : Sem (List (Nat × Nat))).run P w = .ok l w ∧
      ∀ (i : Nat) (q : Nat × Nat) (tf : TI), (fields.map fun (f : Field) => (f.offset, f.type))[i]? = some q → tt q.2 = some tf → l[i]? = some (q.1, tf.size)
  | [], _ => ⟨[], by simp, fun i q tf h => by simp at h⟩
  | f :: fields, h => by
    simp only [List.map_cons, List.all_cons, Bool.and_eq_true] at h
    obtain ⟨l, h1, h2⟩ := sizes_run hTT w fields h.2
    obtain ⟨tf, htf⟩ := Option.isSome_iff_exists.1 h.1
    refine ⟨(f.offset, tf.size) :: l, ?_, fun i q tf' hi ht => ?_⟩
    · simp only [List.mapM_cons, Sem.run_bind, (hTT _ _ htf).run_size, Result.andThen_ok, Sem.run_pure, h1]
    · cases i with
      | zero => simp at hi; subst hi; simp only at ht; rw [htf] at ht; cases ht; rfl
      | succ i => simpa using h2 i q tf' (by simpa using hi) ht

theorem sound_build (hTT : TT P tt) {T : Nat} {ti : TI} {ps : Array (Nat × Operand)} {vs : List (Nat × AV)} {v : AV} (hT : TyOK P T ti) (hps : evP G t ps.toList = some vs) (h : Ok (bldF tt ti vs) v) :
    OpSound P G t e nb ⟨dst, .build T ps, ty, pos, after, gd⟩ v [] := by
  intro B ρ D t' e' a w ht _ hg _
  have hz := (RC.conc ρ (Stab B ρ e' w) w D ti.z hT.pl)
  have h2 := evP_sound hg ht hps
  have hparts : (ps.map fun (i, x) => (i, a.eval x)).toList = ps.toList.map fun p => (p.1, a.eval p.2) := by simp
  unfold bldF at h
  split at h
  · next n el hk =>
    obtain ⟨te, hte, h⟩ := h.opt
    obtain ⟨cs, h3, h4⟩ := h.bnd
    have := h4.ret; subst this
    obtain ⟨us, k1, k2⟩ := bldA_run h2 hz.comps h3
    refine .value (x := .agg us.toArray) (w' := w) ?_ (Post.pure hg.mem (.one k2))
    simp only [execOp, Instr.build, Sem.run_bind, hT.run_zero, Result.andThen_ok, run_underlying (hT.uarr hk), (hTT _ _ hte).run_size, hz.cells, hparts, k1, Sem.run_pure]
  · next fs hk =>
    obtain ⟨hall, h⟩ := h.req
    obtain ⟨cs, h3, h4⟩ := h.bnd
    have := h4.ret; subst this
    obtain ⟨fields, hu, hfs⟩ := hT.ustruct hk
    subst hfs
    obtain ⟨l, hl1, hl2⟩ := sizes_run hTT w fields.toList hall
    obtain ⟨us, k1, k2⟩ := bldS_run (place := (l.toArray[·]?)) (by simpa using hl2) h2 hz.comps h3
    refine .value (x := .agg us.toArray) (w' := w) ?_ (Post.pure hg.mem (.one k2))
    have hm : (fields.mapM fun (f : Field) => do pure (f.offset, ← sizeOf f.type) : Sem (Array (Nat × Nat))).run P w = .ok l.toArray w := by
      rw [Array.mapM_eq_mapM_toList]
      simp only [Sem.run_map]
      exact congrArg (fun r : Result (List (Nat × Nat)) => r.andThen fun a w' => Result.ok a.toArray w') hl1
    simp only [execOp, Instr.build, Sem.run_bind, hT.run_zero, Result.andThen_ok, run_underlying hu, hz.cells, hparts]
    simp only [Sem.run_bind, hm, Result.andThen_ok, k1, Sem.run_pure]
  · exact h.none.elim

/-! ### Choices -/

def pickF (c : AV) (x y : Option AV) : Q AV :=
  match c with
  | .bool true => opt x ret
  | .bool false => opt y ret
  | _ => none
theorem sound_pick {c x y : Operand} {b v : AV} (hc : ev G t c = some b) (h : Ok (pickF b (ev G t x) (ev G t y)) v) : OpSound P G t e nb ⟨dst, .pick c x y, ty, pos, after, gd⟩ v [] := by
  intro B ρ D t' e' a w ht _ hg _
  unfold pickF at h
  split at h
  · obtain ⟨u, h1, h2⟩ := h.opt
    have := h2.ret; subst this
    have hb := (ev_sound hg ht hc).bool_inv
    exact .value (x := a.eval x) (w' := w) (by simp [execOp, hb, asBool]) (Post.pure hg.mem (ev_sound hg ht h1))
  · obtain ⟨u, h1, h2⟩ := h.opt
    have := h2.ret; subst this
    have hb := (ev_sound hg ht hc).bool_inv
    exact .value (x := a.eval y) (w' := w) (by simp [execOp, hb, asBool]) (Post.pure hg.mem (ev_sound hg ht h1))
  · exact h.none.elim

/-- What is no nil. -/
def notNil : AV → Bool
  | .ptr _ _ _ _ | .pel _ => true
  | .fn (.func _) _ => true
  | _ => false
theorem sound_nilCheck {x : Operand} {v : AV} (hx : ev G t x = some v) (h : notNil v = true) : OpSound P G t e nb ⟨dst, .nilCheck x, ty, pos, after, gd⟩ v [] := by
  intro B ρ D t' e' a w ht _ hg _
  have hv := ev_sound hg ht hx
  have : (execOp a.eval ⟨dst, .nilCheck x, ty, pos, after, gd⟩).run P w = .ok (.value (a.eval x)) w := by
    cases v <;> simp only [notNil, Bool.false_eq_true] at h
    all_goals
      obtain ⟨cs, h1, h2⟩ := hv.inv (by simp)
    · cases h2; simp [execOp, h1, shape, AV.isAgg]
    · cases h2; simp [execOp, h1, shape, AV.isAgg]
    · cases h2
      rename_i f cap vs _
      cases f <;> simp only [notNil, Bool.false_eq_true] at h
      simp [execOp, h1, shape, AV.isAgg]
  exact .value this (Post.pure hg.mem hv)

/-! ### Equality -/

def intsOf (k : IntKind) : List AV → Option (List Int)
  | [] => some []
  | .int k' n :: l => if k' = k then (intsOf k l).map (n :: ·) else none
  | .ints k' _ xs :: l => if k' = k then (intsOf k l).map (xs ++ ·) else none
  | _ :: _ => none
theorem intsOf_spec {ρ : Nat → Nat} {S : Nat → Prop} {w : World} {N : Nat → Prop} {k : IntKind} : ∀ {l : List AV} {xs : List Int} {cs : List Value}, intsOf k l = some xs → RC ρ S w N (.agg l) cs → cs = xs.map (Value.int k)
  | [], _, _, h, hr => by cases h; cases hr; rfl
  | c :: l, xs, _, h, .cons h1 h2 => by
    cases c <;> simp only [intsOf] at h <;> first | (cases h; done) | skip
    all_goals
      split at h
      · next hk =>
        subst hk
        simp only [Option.map_eq_some_iff] at h
        obtain ⟨ys, h3, rfl⟩ := h
        cases h1
        rw [intsOf_spec h3 h2]; simp
      · cases h

def eqOp (op : BinOp) (r : Bool) : Q AV :=
  match op with
  | .eql => ret (.bool r)
  | .neq => ret (.bool !r)
  | _ => none
def binG (tt : Nat → Option TI) (T : Nat) (op : BinOp) (a b : AV) : Q AV :=
  match a, b with
  | .bool x, .bool y => opt (tt T) fun ti => match ti.kd with
    | .bool => eqOp op (x == y)
    | _ => none
  | .agg cs, .agg ds => opt (tt T) fun ti => match ti.kd with
    | .arr n el => opt (tt el) fun te => match te.kd with
      | .int k => opt (intsOf k cs) fun xs => opt (intsOf k ds) fun ys => req (xs.length = n ∧ ys.length = n ∧ te.size = 1) (eqOp op (xs == ys))
      | _ => none
    | _ => none
  | .sl _ _ _ _, .nils => opt (tt T) fun ti => match ti.kd with
    | .slice _ => eqOp op false
    | _ => none
  | .nils, .nils => opt (tt T) fun ti => match ti.kd with
    | .slice _ => eqOp op true
    | _ => none
  | .ptr _ _ _ _, .nilp => opt (tt T) fun ti => match ti.kd with
    | .ptr _ => eqOp op false
    | _ => none
  | .nilp, .nilp => opt (tt T) fun ti => match ti.kd with
    | .ptr _ => eqOp op true
    | _ => none
  | a, b => binF op a b

theorem eqOp_run {op : BinOp} {r : Bool} {v : AV} {x y : Value} {T : TypeId} {w : World} (hq : (Op.equal T x y).run P w = .ok r w) (hb : ∀ op' : BinOp, op' = .eql ∨ op' = .neq → ∀ b, (Op.equal T x y).run P w = .ok b w → (binOp op' T x y).run P w = .ok (.bool (if op' = .eql then b else !b)) w)
    (h : Ok (eqOp op r) v) : ∃ u, (binOp op T x y).run P w = .ok u w ∧ ∀ ρ S N, RV ρ S w N v u := by
  cases op <;> simp only [eqOp] at h
  case eql => have := h.ret; subst this; exact ⟨_, hb .eql (.inl rfl) r hq, fun _ _ _ => .ofBool⟩
  case neq => have := h.ret; subst this; exact ⟨_, hb .neq (.inr rfl) r hq, fun _ _ _ => .ofBool⟩
  all_goals exact h.none.elim

theorem eqItems_ints {T : TypeId} {te : TI} {k : IntKind} (hT : TyOK P T te) (hk : te.kd = .int k) (d : Nat) (w : World) (xs ys : List Int) (c : Nat) (hc : c = 1) : ∀ (is : List Nat), (∀ i ∈ is, i < xs.length ∧ i < ys.length) →
    (Op.eqItems (d + 1) T c (xs.map (Value.int k)).toArray (ys.map (Value.int k)).toArray is).run P w = .ok (is.all fun i => xs.getD i 0 == ys.getD i 0) w
  | [], _ => by simp [Op.eqItems]
  | i :: is, h => by
    subst hc
    obtain ⟨h1, h2⟩ := h i (by simp)
    have hu : P.underlying T = some (.int k) := hT.uint hk
    have hpl : P.plainKey T = true := by simp [Program.plainKey, hu]
    have p1 := run_part_plain w hpl (xs := (xs.map (Value.int k)).toArray) (off := i * 1) (v := .int k xs[i]) (by simp [h1])
    have p2 := run_part_plain w hpl (xs := (ys.map (Value.int k)).toArray) (off := i * 1) (v := .int k ys[i]) (by simp [h2])
    have p3 := run_equalIn_int (P := P) w d T k k xs[i] ys[i] hu
    have ih := eqItems_ints hT hk d w xs ys 1 rfl is (fun j hj => h j (by simp [hj]))
    simp only [Op.eqItems, Sem.run_bind, p1, p2, p3, Result.andThen_ok]
    have e1 : xs.getD i 0 = xs[i] := by simp [h1]
    have e2 : ys.getD i 0 = ys[i] := by simp [h2]
    rw [List.all_cons, e1, e2]
    cases hb : (xs[i] == ys[i]) with
    | false => simp
    | true => simpa using ih
theorem all_getD {n : Nat} {xs ys : List Int} (h1 : xs.length = n) (h2 : ys.length = n) : ((List.range n).all fun i => xs.getD i 0 == ys.getD i 0) = (xs == ys) := by
  rw [Bool.eq_iff_iff]
  simp only [List.all_eq_true, List.mem_range, beq_iff_eq]
  constructor
  · intro h
    apply List.ext_getElem (by omega)
    intro i k1 k2
    have := h i (by omega)
    simpa [k1, k2] using this
  · rintro rfl i _; rfl


theorem eqGuardType_ints {T el n : Nat} {k : IntKind} (h1 : P.underlying T = some (.array n el)) (h2 : P.underlying el = some (.int k)) : P.eqGuardType P.depth T = false := by
  have : P.depth = (2 * (P.types.size + Made.depth)) + 1 + 1 := rfl
  rw [this]
  simp [Program.eqGuardType, h1, h2]

theorem uptr {T : Nat} {ti : TI} (h : TyOK P T ti) {e : Nat} (hk : ti.kd = .ptr e) : P.underlying T = some (.pointer e) := by
  obtain ⟨d, hd, h2⟩ := h.under
  rw [hk] at h2
  cases d <;> simp [kdOf] at h2
  rw [hd, h2]

theorem run_eq_ptr {T el : Nat} (hu : P.underlying T = some (.pointer el)) (p : Option Addr) (w : World) : ∀ d : Nat, (Op.equalIn (d + 1) T (.pointer p) (.pointer none)).run P w = .ok p.isNone w := by
  intro d; cases p <;> simp [Op.equalIn, run_underlying hu]
theorem binF_bool {T : Nat} {x y : Value} {w : World} {op' : BinOp} (ho : op' = .eql ∨ op' = .neq) (h : (match x with | .bool _ => True | .agg _ => True | .slice _ _ _ => True | .pointer _ => True | _ => False)) {b : Bool} (hb : (Op.equal T x y).run P w = .ok b w) :
    (binOp op' T x y).run P w = .ok (.bool (if op' = .eql then b else !b)) w := by
  rcases ho with rfl | rfl <;> cases x <;> first | exact h.elim | (simp [binOp, hb]) 

theorem binG_run (hTT : TT P tt) {T : Nat} {op : BinOp} {a b v : AV} {x y : Value} {ρ : Nat → Nat} {S : Nat → Prop} {w : World} {N : Nat → Prop} (hx : RV ρ S w N a x) (hy : RV ρ S w N b y) (X Y : Operand) (h : Ok (binG tt T op a b) v) :
    ∃ u, (do eqGuard op T X Y x y; binOp op T x y : Sem Value).run P w = .ok u w ∧ RV ρ S w N v u := by
  unfold binG at h
  split at h
  · next p q =>
    obtain ⟨ti, h1, h⟩ := h.opt
    split at h
    · next hk =>
      obtain rfl := hx.bool_inv
      obtain rfl := hy.bool_inv
      have hu := (hTT _ _ h1).ubool hk
      obtain ⟨u, k1, k2⟩ := eqOp_run (P := P) (w := w) (T := T) (x := .bool p) (y := .bool q) (run_equal_bool w T p q hu) (fun op' ho b hb => by
        rcases ho with rfl | rfl <;> simp [binOp, hb]) h
      exact ⟨u, by rw [Sem.run_bind]; rw [show (eqGuard op T X Y (.bool p) (.bool q)).run P w = .ok () w by unfold eqGuard; cases op <;> simp]; exact k1, k2 _ _ _⟩
    · exact h.none.elim
  · next cs ds =>
    obtain ⟨ti, h1, h⟩ := h.opt
    split at h
    · next n el hk =>
      obtain ⟨te, h2, h⟩ := h.opt
      split at h
      · next k hke =>
        obtain ⟨xs, h3, h⟩ := h.opt
        obtain ⟨ys, h4, h⟩ := h.opt
        obtain ⟨⟨l1, l2, l3⟩, h⟩ := h.req
        obtain ⟨c1, e1, r1⟩ := hx.inv (by simp)
        obtain ⟨c2, e2, r2⟩ := hy.inv (by simp)
        subst e1 e2
        have q1 := intsOf_spec h3 r1
        have q2 := intsOf_spec h4 r2
        subst q1 q2
        have hu := (hTT _ _ h1).uarr hk
        have hue := (hTT _ _ h2).uint hke
        obtain ⟨i, hi, hsz, _⟩ := (hTT _ _ h2).info
        have hce : P.cellsOf el = 1 := by simp [Program.cellsOf, hi, hsz, l3]
        have heq : (Op.equal T (.agg (xs.map (Value.int k)).toArray) (.agg (ys.map (Value.int k)).toArray)).run P w = .ok (xs == ys) w := by
          show (Op.equalIn (9999 + 1) T _ _).run P w = _
          rw [run_equalIn_array w 9999 _ _ hu hi, show (9999 : Nat) = 9998 + 1 from rfl, eqItems_ints (hTT _ _ h2) hke 9998 w xs ys _ hce _ (fun i hi => by have := List.mem_range.1 hi; omega), all_getD l1 l2]
        obtain ⟨u, k1, k2⟩ := eqOp_run (P := P) (w := w) (T := T) heq (fun op' ho b hb => by
          rcases ho with rfl | rfl <;> simp [binOp, hb]) h
        refine ⟨u, ?_, k2 _ _ _⟩
        simp only [shape, AV.isAgg, cond_true]
        rw [Sem.run_bind, run_eqGuard_agg w op T X Y _ _ (eqGuardType_ints hu hue)]
        exact k1
      · exact h.none.elim
    · exact h.none.elim
  · next nm sz off len =>
    obtain ⟨ti, h1, h⟩ := h.opt
    split at h
    · next el hk =>
      obtain ⟨c1, e1, r1⟩ := hx.inv (by simp)
      obtain ⟨c2, e2, r2⟩ := hy.inv (by simp)
      subst e1 e2
      cases r1; cases r2
      rename_i cap a c h0 ha hl hm hb hc
      have hu := (hTT _ _ h1).uslice hk
      obtain ⟨u, k1, k2⟩ := eqOp_run (P := P) (w := w) (T := T) (x := .slice (some a) len cap) (y := .slice none 0 0) (r := false) (run_equal_slice_nil w T el (some a) len cap hu) (fun op' ho b hb => by
        rcases ho with rfl | rfl <;> simp [binOp, hb]) h
      refine ⟨u, ?_, k2 _ _ _⟩
      simp only [shape, AV.isAgg, cond_false, List.headD_cons]
      rw [Sem.run_bind, show (eqGuard op T X Y (.slice (some a) len cap) (.slice none 0 0)).run P w = .ok () w by unfold eqGuard; cases op <;> simp]
      exact k1
    · exact h.none.elim
  · obtain ⟨ti, h1, h⟩ := h.opt
    split at h
    · next el hk =>
      obtain ⟨c1, e1, r1⟩ := hx.inv (by simp)
      obtain ⟨c2, e2, r2⟩ := hy.inv (by simp)
      subst e1 e2
      cases r1; cases r2
      have hu := (hTT _ _ h1).uslice hk
      obtain ⟨u, k1, k2⟩ := eqOp_run (P := P) (w := w) (T := T) (x := .slice none 0 0) (y := .slice none 0 0) (r := true) (run_equal_slice_nil w T el none 0 0 hu) (fun op' ho b hb => by
        rcases ho with rfl | rfl <;> simp [binOp, hb]) h
      refine ⟨u, ?_, k2 _ _ _⟩
      simp only [shape, AV.isAgg, cond_false, List.headD_cons]
      rw [Sem.run_bind, show (eqGuard op T X Y (.slice none 0 0) (.slice none 0 0)).run P w = .ok () w by unfold eqGuard; cases op <;> simp]
      exact k1
    · exact h.none.elim
  · next nm o i sz =>
    obtain ⟨ti, h1, h⟩ := h.opt
    split at h
    · next el hk =>
      obtain ⟨c1, e1, r1⟩ := hx.inv (by simp)
      obtain ⟨c2, e2, r2⟩ := hy.inv (by simp)
      subst e1 e2
      cases r1; cases r2
      have hu := uptr (hTT _ _ h1) hk
      obtain ⟨u, k1, k2⟩ := eqOp_run (P := P) (w := w) (T := T) (x := .pointer (some ⟨ρ nm, o + i * sz, none⟩)) (y := .pointer none) (r := false) (run_eq_ptr hu _ w 9999) (fun op' ho b hb => by
        rcases ho with rfl | rfl <;> simp [binOp, hb]) h
      refine ⟨u, ?_, k2 _ _ _⟩
      simp only [shape, AV.isAgg, cond_false, List.headD_cons]
      rw [Sem.run_bind, show (eqGuard op T X Y (.pointer (some ⟨ρ nm, o + i * sz, none⟩)) (.pointer none)).run P w = .ok () w by unfold eqGuard; cases op <;> simp]
      exact k1
    · exact h.none.elim
  · obtain ⟨ti, h1, h⟩ := h.opt
    split at h
    · next el hk =>
      obtain ⟨c1, e1, r1⟩ := hx.inv (by simp)
      obtain ⟨c2, e2, r2⟩ := hy.inv (by simp)
      subst e1 e2
      cases r1; cases r2
      have hu := uptr (hTT _ _ h1) hk
      obtain ⟨u, k1, k2⟩ := eqOp_run (P := P) (w := w) (T := T) (x := .pointer none) (y := .pointer none) (r := true) (run_eq_ptr hu _ w 9999) (fun op' ho b hb => by
        rcases ho with rfl | rfl <;> simp [binOp, hb]) h
      refine ⟨u, ?_, k2 _ _ _⟩
      simp only [shape, AV.isAgg, cond_false, List.headD_cons]
      rw [Sem.run_bind, show (eqGuard op T X Y (.pointer none) (.pointer none)).run P w = .ok () w by unfold eqGuard; cases op <;> simp]
      exact k1
    · exact h.none.elim
  · exact binF_run hx hy X Y T h

theorem sound_binG (hTT : TT P tt) {op : BinOp} {T yt : TypeId} {x y : Operand} {a b v : AV} (hx : ev G t x = some a) (hy : ev G t y = some b) (h : Ok (binG tt T op a b) v) : OpSound P G t e nb ⟨dst, .binOp op T x y yt, ty, pos, after, gd⟩ v [] := by
  intro B ρ D t' e' c w ht _ hg _
  obtain ⟨u, hu, hr⟩ := binG_run hTT (ev_sound hg ht hx) (ev_sound hg ht hy) x y h
  refine .value (x := u) (w' := w) ?_ (Post.pure hg.mem hr)
  simp only [execOp]
  rw [Sem.run_bind, hu]
  rfl

/-! ### Lengths, and the lesser or the greater of two -/

def lenF (kd : Kd) (x : AV) : Q AV :=
  match kd, x with
  | .slice _, .sl _ _ _ len => ret (.int .i64 len)
  | .slice _, .nils => ret (.int .i64 0)
  | .slice _, .lstI _ xs => ret (.int .i64 xs.length)
  | .slice _, .lstS ss => ret (.int .i64 ss.length)
  | .slice _, .lst _ l => ret (.int .i64 l.length)
  | .str, .str s => ret (.int .i64 s.size)
  | _, _ => none

theorem lenF_run {T : Nat} {ti : TI} (hT : TyOK P T ti) {x v : AV} {u : Value} {ρ : Nat → Nat} {S : Nat → Prop} {w : World} {N : Nat → Prop} (hx : RV ρ S w N x u) (h : Ok (lenF ti.kd x) v) (ts : Array TypeId) (hts : ts[0]? = some T) (cs : Array Bool) (U : TypeId) :
    ∃ r, (builtin .len ts U cs #[u]).run P w = .ok (.value r) w ∧ RV ρ S w N v r := by
  have sl : ∀ (el : Nat) (a : Option Addr) (n c : Nat), ti.kd = .slice el → (builtin .len ts U cs #[.slice a n c]).run P w = .ok (.value (.int .i64 n)) w := by
    intro el a n c hk
    simp [builtin, Builtin.len_, hts, run_underlying (hT.uslice hk), goInt]
  have st : ∀ (s : ByteArray), ti.kd = .str → (builtin .len ts U cs #[.string s]).run P w = .ok (.value (.int .i64 s.size)) w := by
    intro s hk
    simp [builtin, Builtin.len_, hts, run_underlying (hT.ustr hk), goInt]
  cases hk : ti.kd <;> cases x <;> simp only [lenF, hk] at h <;> first | exact h.none.elim | skip
  all_goals
    have := h.ret; subst this
    obtain ⟨c1, e1, r1⟩ := hx.inv (by simp)
    subst e1
    cases r1
    first | exact ⟨_, sl _ _ _ _ hk, .ofInt⟩ | exact ⟨_, st _ hk, .ofInt⟩
end
end Sx
