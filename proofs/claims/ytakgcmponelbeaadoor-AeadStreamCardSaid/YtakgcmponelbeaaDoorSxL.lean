/- The interpreter: operations, regions, functions. -/
import Derived.Test.YtakgcmponelbeaaDoorSxK
import Derived.Test.YtakgcmponelbeaaDoorSxV
set_option linter.unusedVariables false
set_option linter.unusedSimpArgs false
namespace Sx
open Go

/-- An integer operand. -/
def asI : AV → Option Int
  | .int _ j => some j
  | _ => none

/-- A slice as a pointer to its array. -/
def stapQ (ti : TI) (p : AV) : Q AV :=
  match ti.kd, p with
  | .arr n _, .sl nm sz off len => req (0 < n ∧ n ≤ len) (ret (.ptr nm 0 off sz))
  | .arr n _, .lstI k xs => req (0 < n ∧ n ≤ xs.length) (ret (.pel (.agg [.ints k n (xs.take n)])))
  | _, _ => none

theorem sound_stap {P : Program} {G : Nat → Option AV} {t : Tms} {e : Ents} {nb : Nat} {dst : Option Tmp} {ty : TypeId} {pos : String} {after : Array Edge} {gd : Option (Nat × Bool)} {T : Nat} {ti : TI} {x : Operand} {p v : AV}
    (hT : TyOK P T ti) (hx : ev G t x = some p) (h : Ok (stapQ ti p) v) : OpSound P G t e nb ⟨dst, .sliceToArrayPointer T x, ty, pos, after, gd⟩ v [] := by
  intro B ρ D t' e' c w ht hle hg _
  have hx := ev_sound hg ht hx
  unfold stapQ at h
  split at h
  · next n el nm sz off len hk _ =>
    obtain ⟨⟨h0, h1⟩, h2⟩ := h.req
    have := h2.ret; subst this
    obtain ⟨cs, hv, hr⟩ := hx.inv (by simp)
    cases hr with
    | sl hn ha hl hm hb0 hc =>
      rename_i cap a c0
      refine .value (x := .pointer (some a)) (w' := w) ?_ (Post.pure hg.mem ?_)
      · have hv' : c.eval x = .slice (some a) len cap := hv
        simp only [execOp, hv', Instr.arrayAt, Sem.run_bind, run_underlying (hT.uarr hk), Result.andThen_ok, Sem.run_pure]
        rw [if_neg (by omega)]; rfl
      · rcases ha with rfl | ⟨h3, _⟩
        · have := RV.one (RC.ptr (ρ := ρ) (S := Stab B ρ e' w) (w := w) (N := D) (nm := nm) (o := 0) (i := off) (sz := sz) hn)
          simpa [shape, AV.isAgg] using this
        · omega
  · next n el k xs hk _ =>
    obtain ⟨⟨h0, h1⟩, h2⟩ := h.req
    have := h2.ret; subst this
    obtain ⟨cs, hv, hr⟩ := hx.inv (by simp)
    cases hr with
    | lstI hl hm hc =>
      rename_i a cap
      obtain ⟨b, o, rfl, hS, _⟩ := hc 0 (xs[0]'(by omega)) (by simp)
      refine .value (x := .pointer (some ⟨b, o, none⟩)) (w' := w) ?_ (Post.pure hg.mem ?_)
      · have hv' : c.eval x = .slice (some ⟨b, o, none⟩) xs.length cap := hv
        simp only [execOp, hv', Instr.arrayAt, Sem.run_bind, run_underlying (hT.uarr hk), Result.andThen_ok, Sem.run_pure]
        rw [if_neg (by omega)]; rfl
      · refine .one (cs := [_]) (.pel (cs := ((xs.take n).map (Value.int k)) ++ []) (.cons (.ints (by simp; omega)) .nil) hS (fun j u hj => ?_))
        simp only [List.append_nil, List.getElem?_map, Option.map_eq_some_iff] at hj
        obtain ⟨y, hy, rfl⟩ := hj
        rw [List.getElem?_take] at hy
        split at hy
        · obtain ⟨b', o', hbo, _, hcell⟩ := hc j y hy
          cases hbo
          exact hcell
        · cases hy
  · exact h.none.elim

/-- One operation that is no call. -/
def stepQ (tt : Nat → Option TI) (G : Nat → Option AV) (t : Tms) (e : Ents) (nb : Nat) : Op → Q (AV × Del)
  | .move x => opt (ev G t x) fun v => ret (v, [])
  | .assign x => opt (ev G t x) fun v => ret (v, [])
  | .extract x i => opt (ev G t x) fun v => match v with | .tup l => opt l[i]? fun u => ret (u, []) | _ => none
  | .alloc T => opt (tt T) fun ti => ret (.ptr nb 0 0 1, [(nb, some (.obj T ti.z))])
  | .box T x => opt (ev G t x) fun v => req (v.isTup = false) (ret (.ptr nb 0 0 1, [(nb, some (.obj T v))]))
  | .load T x => opt (tt T) fun ti => opt (ev G t x) fun p => bnd (ldP e ti p) fun v => ret (v, [])
  | .store T x y => opt (tt T) fun ti => opt (ev G t x) fun p => opt (ev G t y) fun v => bnd (stP e ti p v) fun d => ret (.tup [], d)
  | .binOp op T x y _ => opt (ev G t x) fun a => opt (ev G t y) fun b => bnd (binG tt T op a b) fun v => ret (v, [])
  | .unOp op _ x => opt (ev G t x) fun a => bnd (unF op a) fun v => ret (v, [])
  | .convert T1 T2 x => opt (tt T1) fun t1 => opt (tt T2) fun t2 => opt (ev G t x) fun v => bnd (cvQ tt e T1 T2 t1 t2 v) fun u => ret (u, [])
  | .fieldAddr T x f => opt (tt T) fun ti => opt (ev G t x) fun p => bnd (fldF tt ti f p) fun v => ret (v, [])
  | .field T x f => opt (tt T) fun ti => opt (ev G t x) fun p =>
    match ti.kd, p with
    | .strct fs, .agg cs => opt fs[f]? fun q => opt (tt q.2) fun tf => bnd (ldC tf cs q.1 0) fun v => ret (v, [])
    | _, _ => none
  | .indexAddr T x y => opt (tt T) fun ti => opt (tt ti.kd.elem) fun tf => opt (ev G t x) fun p => opt (ev G t y) fun j => opt (asI j) fun j => bnd (ixA ti tf p j) fun v => ret (v, [])
  | .index T x y => opt (tt T) fun ti => opt (ev G t x) fun p => opt (ev G t y) fun j => opt (asI j) fun j =>
    match ti.kd with
    | .str => bnd (ixV ti default p j) fun v => ret (v, [])
    | .arr n el => opt (tt el) fun tf => bnd (ixV ti tf p j) fun v => ret (v, [])
    | _ => none
  | .slice T x lo hi none => opt (tt T) fun ti => opt (ev G t x) fun p => opt (bd G t lo) fun l => opt (bd G t hi) fun u => bnd (slF tt e ti p l u) fun v => ret (v, [])
  | .pick c x y => opt (ev G t c) fun b => bnd (pickF b (ev G t x) (ev G t y)) fun v => ret (v, [])
  | .nilCheck x => opt (ev G t x) fun v => req (notNil v = true) (ret (v, []))
  | .build T ps => opt (tt T) fun ti => opt (evP G t ps.toList) fun vs => bnd (bldF tt ti vs) fun v => ret (v, [])
  | .buildSlice T n ps => opt (tt T) fun ti => opt (evP G t ps.toList) fun vs => bslQ tt nb ti n vs
  | .sliceToArrayPointer T x => opt (tt T) fun ti => opt (ev G t x) fun p => bnd (stapQ ti p) fun v => ret (v, [])
  | .makeSlice T x y => opt (tt T) fun ti => opt (ev G t x) fun a => opt (ev G t y) fun b => mkQ tt nb ti a b
  | _ => none

section
variable {P : Program} {tt : Nat → Option TI} {G : Nat → Option AV} {t : Tms} {e : Ents} {nb : Nat} {dst : Option Tmp} {ty : TypeId} {pos : String} {after : Array Edge} {gd : Option (Nat × Bool)}

theorem asI_spec {v : AV} {j : Int} (h : asI v = some j) : ∃ k, v = .int k j := by
  cases v <;> simp [asI] at h
  subst h; exact ⟨_, rfl⟩
theorem notTup {v : AV} (h : v.isTup = false) : ∀ l, v ≠ .tup l := by
  intro l hl; subst hl; cases h

theorem stepQ_sound (hTT : TT P tt) {op : Op} {v : AV} {d : Del} (h : Ok (stepQ tt G t e nb op) (v, d)) : OpSound P G t e nb ⟨dst, op, ty, pos, after, gd⟩ v d := by
  cases op <;> simp only [stepQ] at h <;> first | exact h.none.elim | skip
  case move => obtain ⟨v, h1, h⟩ := h.opt; cases h.ret; exact sound_move h1
  case assign => obtain ⟨v, h1, h⟩ := h.opt; cases h.ret; exact sound_assign h1
  case extract =>
    obtain ⟨v, h1, h⟩ := h.opt
    split at h
    · obtain ⟨u, h2, h⟩ := h.opt; cases h.ret; exact sound_extract h1 h2
    · exact h.none.elim
  case alloc => obtain ⟨ti, h1, h⟩ := h.opt; cases h.ret; exact sound_alloc (hTT _ _ h1)
  case box => obtain ⟨v, h1, h⟩ := h.opt; obtain ⟨h2, h⟩ := h.req; cases h.ret; exact sound_box h1 (notTup h2)
  case load => obtain ⟨ti, h1, h⟩ := h.opt; obtain ⟨p, h2, h⟩ := h.opt; obtain ⟨v, h3, h⟩ := h.bnd; cases h.ret; exact sound_load (hTT _ _ h1) h2 h3
  case store => obtain ⟨ti, h1, h⟩ := h.opt; obtain ⟨p, h2, h⟩ := h.opt; obtain ⟨v, h3, h⟩ := h.opt; obtain ⟨d, h4, h⟩ := h.bnd; cases h.ret; exact sound_store (hTT _ _ h1) h2 h3 h4
  case binOp => obtain ⟨a, h1, h⟩ := h.opt; obtain ⟨b, h2, h⟩ := h.opt; obtain ⟨v, h3, h⟩ := h.bnd; cases h.ret; exact sound_binG hTT h1 h2 h3
  case unOp => obtain ⟨a, h1, h⟩ := h.opt; obtain ⟨v, h3, h⟩ := h.bnd; cases h.ret; exact sound_un h1 h3
  case convert T1 T2 x =>
    obtain ⟨t1, h1, h⟩ := h.opt; obtain ⟨t2, h2, h⟩ := h.opt; obtain ⟨a, h3, h⟩ := h.opt; obtain ⟨v, h4, h⟩ := h.bnd; cases h.ret
    exact sound_cv hTT (hTT _ _ h1) (hTT _ _ h2) h3 h4
  case pick => obtain ⟨b, h1, h⟩ := h.opt; obtain ⟨v, h2, h⟩ := h.bnd; cases h.ret; exact sound_pick h1 h2
  case nilCheck => obtain ⟨b, h1, h⟩ := h.opt; obtain ⟨h2, h⟩ := h.req; cases h.ret; exact sound_nilCheck h1 h2
  case build => obtain ⟨ti, h1, h⟩ := h.opt; obtain ⟨vs, h2, h⟩ := h.opt; obtain ⟨v, h3, h⟩ := h.bnd; cases h.ret; exact sound_build hTT (hTT _ _ h1) h2 h3
  case buildSlice => obtain ⟨ti, h1, h⟩ := h.opt; obtain ⟨vs, h2, h⟩ := h.opt; exact sound_buildSlice hTT (hTT _ _ h1) h2 h
  case sliceToArrayPointer => obtain ⟨ti, h1, h⟩ := h.opt; obtain ⟨p, h2, h⟩ := h.opt; obtain ⟨v, h3, h⟩ := h.bnd; cases h.ret; exact sound_stap (hTT _ _ h1) h2 h3
  case makeSlice => obtain ⟨ti, h1, h⟩ := h.opt; obtain ⟨a, h2, h⟩ := h.opt; obtain ⟨b, h3, h⟩ := h.opt; exact sound_make hTT (hTT _ _ h1) h2 h3 h
  case fieldAddr => obtain ⟨ti, h1, h⟩ := h.opt; obtain ⟨p, h2, h⟩ := h.opt; obtain ⟨v, h3, h⟩ := h.bnd; cases h.ret; exact sound_fieldAddr hTT (hTT _ _ h1) h2 h3
  case field =>
    obtain ⟨ti, h1, h⟩ := h.opt; obtain ⟨p, h2, h⟩ := h.opt
    split at h
    · next hk => obtain ⟨q, h3, h⟩ := h.opt; obtain ⟨tf, h4, h⟩ := h.opt; obtain ⟨v, h5, h⟩ := h.bnd; cases h.ret; exact sound_field hTT (hTT _ _ h1) hk h3 h4 h2 h5
    · exact h.none.elim
  case indexAddr =>
    obtain ⟨ti, h1, h⟩ := h.opt; obtain ⟨tf, h2, h⟩ := h.opt; obtain ⟨p, h3, h⟩ := h.opt; obtain ⟨j, h4, h⟩ := h.opt; obtain ⟨i, h5, h⟩ := h.opt; obtain ⟨v, h6, h⟩ := h.bnd; cases h.ret
    obtain ⟨k, rfl⟩ := asI_spec h5
    exact sound_indexAddr (hTT _ _ h1) (hTT _ _ h2) h3 h4 h6
  case index =>
    obtain ⟨ti, h1, g1⟩ := h.opt; obtain ⟨p, h3, g2⟩ := g1.opt; obtain ⟨j, h4, g3⟩ := g2.opt; obtain ⟨i, h5, g4⟩ := g3.opt
    clear h g1 g2 g3
    obtain ⟨k, hk0⟩ := asI_spec h5
    subst hk0
    split at g4
    · next hk => obtain ⟨v, h6, g5⟩ := g4.bnd; cases g5.ret; exact sound_index (hTT _ _ h1) (.inl hk) h3 h4 h6
    · next n el hk => obtain ⟨tf, h2, g5⟩ := g4.opt; obtain ⟨v, h6, g6⟩ := g5.bnd; cases g6.ret; exact sound_index (hTT _ _ h1) (.inr (by rw [hk]; exact hTT _ _ h2)) h3 h4 h6
    · exact g4.none.elim
  case slice T x lo hi mx =>
    cases mx with
    | some _ => simp only [stepQ] at h; exact h.none.elim
    | none =>
      simp only [stepQ] at h
      obtain ⟨ti, h1, h⟩ := h.opt; obtain ⟨p, h2, h⟩ := h.opt; obtain ⟨l, h3, h⟩ := h.opt; obtain ⟨u, h4, h⟩ := h.opt; obtain ⟨v, h5, h⟩ := h.bnd; cases h.ret; exact sound_slice hTT (hTT _ _ h1) h2 h3 h4 h5
end

end Sx
