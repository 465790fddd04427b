/- Elements and slices. -/
import Derived.Test.YtakgcmponelbeaaDoorSxH
set_option linter.unusedVariables false
set_option linter.unusedSimpArgs false
namespace Sx
open Go

def Kd.isInt : Kd → Bool
  | .int _ => true
  | _ => false

/-- The address of an element. -/
def ixA (ti tf : TI) (p : AV) (j : Int) : Q AV :=
  match ti.kd, p with
  | .arr n _, .ptr nm o i sz => req (i = 0 ∧ 0 ≤ j ∧ j < n) (if tf.size = 1 ∧ tf.kd.isInt = true then ret (.ptr nm o j.toNat 1) else ret (.ptr nm (o + j.toNat * tf.size) 0 1))
  | .arr n _, .pel v => req (0 ≤ j ∧ j < n ∧ tf.size = 1 ∧ tf.kd.agg = false) (bnd (if tf.kd.isInt = true then ldS (comps v) 0 j.toNat else ldS (comps v) j.toNat 0) fun x => ret (.pel x))
  | .slice _, .sl nm sz off len => req (sz = tf.size ∧ 0 ≤ j ∧ j < len) (ret (.ptr nm 0 (off + j.toNat) sz))
  | .slice _, .lstI k xs => req (tf.size = 1 ∧ 0 ≤ j ∧ j < xs.length) (ret (.pel (.int k (xs.getD j.toNat 0))))
  | .slice _, .lstS ss => req (tf.size = 1 ∧ 0 ≤ j ∧ j < ss.length) (ret (.pel (.str (ss.getD j.toNat .empty))))
  | .slice _, .lst sz l => req (sz = tf.size ∧ 0 ≤ j ∧ j < l.length) (ret (.pel (l.getD j.toNat default)))
  | _, _ => none

section
variable {P : Program} {G : Nat → Option AV} {t : Tms} {e : Ents} {nb : Nat} {dst : Option Tmp} {ty : TypeId} {pos : String} {after : Array Edge} {gd : Option (Nat × Bool)}

def Kd.elem : Kd → Nat
  | .arr _ e => e
  | .slice e => e
  | _ => 0

theorem sound_indexAddr {T : Nat} {ti tf : TI} {x y : Operand} {k : IntKind} {j : Int} {p v : AV} (hT : TyOK P T ti) (hF : TyOK P ti.kd.elem tf) (hx : ev G t x = some p) (hy : ev G t y = some (.int k j)) (h : Ok (ixA ti tf p j) v) :
    OpSound P G t e nb ⟨dst, .indexAddr T x y, ty, pos, after, gd⟩ v [] := by
  intro B ρ D t' e' c w ht _ hg _
  have hx := ev_sound hg ht hx
  have hy := (ev_sound hg ht hy).int_inv
  have hs := hF.run_size (P := P) w
  -- of an array
  have arr : ∀ (n el b o : Nat), ti.kd = .arr n el → c.eval x = .pointer (some ⟨b, o, none⟩) → 0 ≤ j → j < n → (execOp c.eval ⟨dst, .indexAddr T x y, ty, pos, after, gd⟩).run P w = .ok (.value (.pointer (some ⟨b, o + j.toNat * tf.size, none⟩))) w := by
    intro n el b o hk h1 h2 h3
    rw [hk] at hs
    simp only [Kd.elem] at hs
    simp only [execOp, hy, h1, Instr.indexAt, asIntOf, Instr.sureAddr, Sem.run_bind, Sem.run_pure, Result.andThen_ok, run_underlying (hT.uarr hk)]
    rw [if_pos ⟨h2, h3⟩]
    simp only [Sem.run_bind, Sem.run_pure, Result.andThen_ok, hs, addr_add]
  have sli : ∀ (el : Nat) (b : Addr) (len cap : Nat), ti.kd = .slice el → c.eval x = .slice (some b) len cap → 0 ≤ j → j < len → (execOp c.eval ⟨dst, .indexAddr T x y, ty, pos, after, gd⟩).run P w = .ok (.value (.pointer (some (b.add (j.toNat * tf.size))))) w := by
    intro el b len cap hk h1 h2 h3
    rw [hk] at hs
    simp only [Kd.elem] at hs
    simp only [execOp, hy, h1, Instr.indexAt, asIntOf, Sem.run_bind, Sem.run_pure, Result.andThen_ok, run_underlying (hT.uslice hk)]
    rw [if_pos ⟨h2, h3⟩]
    simp only [Sem.run_bind, Sem.run_pure, Result.andThen_ok, hs]
  cases hk : ti.kd <;> cases p <;> simp only [ixA, hk] at h <;> first | exact h.none.elim | skip
  · -- a slice of one's own
    rename_i el nm sz off len _
    obtain ⟨⟨h1, h2, h3⟩, h⟩ := h.req
    have := h.ret; subst this
    obtain ⟨cs, hv, hr⟩ := hx.inv (by simp)
    cases hr with
    | sl hn ha hl hm hb hc =>
      rename_i cap a c0
      rcases ha with ha | ⟨h0, _, _⟩
      · subst ha
        refine .value (sli el _ len cap hk hv h2 h3) (Post.pure hg.mem ?_)
        rw [addr_add, ← h1]
        have := RV.one (RC.ptr (ρ := ρ) (S := Stab B ρ e' w) (w := w) (o := 0) (i := off + j.toNat) (sz := sz) hn)
        rw [Nat.zero_add, Nat.add_mul] at this
        exact this
      · omega
  · rename_i el k xs _
    obtain ⟨⟨h1, h2, h3⟩, h⟩ := h.req
    have := h.ret; subst this
    obtain ⟨cs, hv, hr⟩ := hx.inv (by simp)
    cases hr with
    | lstI hl hm hc =>
      rename_i a cap
      have hlt : j.toNat < xs.length := by omega
      obtain ⟨b, o, rfl, hS, hcell⟩ := hc j.toNat xs[j.toNat] (List.getElem?_eq_getElem hlt)
      refine .value (sli el _ _ cap hk hv h2 h3) (Post.pure hg.mem ?_)
      rw [addr_add, h1, Nat.mul_one]
      refine .one (cs := [_]) (.pel (cs := [_]) .int hS (fun i u hi => ?_))
      cases i with
      | zero => simp at hi; subst hi; simpa [List.getElem?_eq_getElem hlt] using hcell
      | succ i => simp at hi
  · rename_i el ss _
    obtain ⟨⟨h1, h2, h3⟩, h⟩ := h.req
    have := h.ret; subst this
    obtain ⟨cs, hv, hr⟩ := hx.inv (by simp)
    cases hr with
    | lstS hl hm hc =>
      rename_i a cap
      have hlt : j.toNat < ss.length := by omega
      obtain ⟨b, o, rfl, hS, hcell⟩ := hc j.toNat ss[j.toNat] (List.getElem?_eq_getElem hlt)
      refine .value (sli el _ _ cap hk hv h2 h3) (Post.pure hg.mem ?_)
      rw [addr_add, h1, Nat.mul_one]
      refine .one (cs := [_]) (.pel (cs := [_]) .str hS (fun i u hi => ?_))
      cases i with
      | zero => simp at hi; subst hi; simpa [List.getElem?_eq_getElem hlt] using hcell
      | succ i => simp at hi
  · rename_i el sz l _
    obtain ⟨⟨h1, h2, h3⟩, h⟩ := h.req
    have := h.ret; subst this
    obtain ⟨cs, hv, hr⟩ := hx.inv (by simp)
    cases hr with
    | lst vs hl hm hr hc =>
      rename_i a cap
      have hlt : j.toNat < l.length := by omega
      have hget : l[j.toNat]? = some (l.getD j.toNat default) := by simp [List.getElem?_eq_getElem hlt]
      obtain ⟨hz, b, o, rfl, hS, hcell⟩ := hc j.toNat _ hget
      refine .value (sli el _ _ cap hk hv h2 h3) (Post.pure hg.mem ?_)
      rw [addr_add, ← h1]
      exact .one (cs := [_]) (.pel (hr _ _ hget) hS hcell)
  · -- an array of one's own
    rename_i n el nm o i sz _
    obtain ⟨⟨h0, h2, h3⟩, h'⟩ := h.req
    clear h
    subst h0
    obtain ⟨cs, hv, hr⟩ := hx.inv (by simp)
    cases hr with
    | ptr hn =>
      have hv' : c.eval x = .pointer (some ⟨ρ nm, o, none⟩) := by simpa [shape, AV.isAgg] using hv
      refine .value (arr n el _ _ hk hv' h2 h3) (Post.pure hg.mem ?_)
      split at h'
      · next h1 =>
        have := h'.ret; subst this
        rw [h1.1]
        exact .one (cs := [_]) (.ptr hn)
      · have := h'.ret; subst this
        have := RV.one (RC.ptr (ρ := ρ) (S := Stab B ρ e' w) (w := w) (o := o + j.toNat * tf.size) (i := 0) (sz := 1) hn)
        simpa [shape, AV.isAgg] using this
  · rename_i n el v0 _
    obtain ⟨⟨h2, h3, h1, hag⟩, h⟩ := h.req
    obtain ⟨z, hz, h⟩ := h.bnd
    have := h.ret; subst this
    obtain ⟨cs, hv, hr⟩ := hx.inv (by simp)
    cases hr with
    | pel hr hs0 hc =>
      rename_i b o vals
      have hv' : c.eval x = .pointer (some ⟨b, o, none⟩) := hv
      refine .value (arr n el _ _ hk hv' h2 h3) (Post.pure hg.mem ?_)
      rw [h1, Nat.mul_one]
      have : ∃ u, vals[j.toNat]? = some u ∧ RC ρ (Stab B ρ e' w) w NoNm z [u] := by
        split at hz
        · obtain ⟨u, _, g1, g2⟩ := hr.comps.ldS hz; exact ⟨u, by simpa using g1, g2⟩
        · obtain ⟨u, _, g1, g2⟩ := hr.comps.ldS hz; exact ⟨u, by simpa using g1, g2⟩
      obtain ⟨u, g1, g2⟩ := this
      refine .one (cs := [_]) (.pel g2 hs0 (fun i u' hi => ?_))
      cases i with
      | zero => simp at hi; subst hi; exact hc _ _ g1
      | succ i => simp at hi

/-- The byte of a string. -/
def bat (s : ByteArray) (j : Nat) : Int := ((s.data.toList.getD j 0).toNat : Int)

def ixV (ti tf : TI) (p : AV) (j : Int) : Q AV :=
  match ti.kd, p with
  | .arr n _, .agg cs => req (0 ≤ j ∧ j < n) (if tf.kd.isInt = true then req (tf.size = 1) (ldC tf cs 0 j.toNat) else ldC tf cs (j.toNat * tf.size) 0)
  | .str, .str s => req (0 ≤ j ∧ j < s.size) (ret (.int .u8 (bat s j.toNat)))
  | _, _ => none

theorem sound_index {T : Nat} {ti tf : TI} {x y : Operand} {k : IntKind} {j : Int} {p v : AV} (hT : TyOK P T ti) (hF : ti.kd = .str ∨ TyOK P ti.kd.elem tf) (hx : ev G t x = some p) (hy : ev G t y = some (.int k j)) (h : Ok (ixV ti tf p j) v) :
    OpSound P G t e nb ⟨dst, .index T x y, ty, pos, after, gd⟩ v [] := by
  intro B ρ D t' e' c w ht _ hg _
  have hx := ev_sound hg ht hx
  have hy := (ev_sound hg ht hy).int_inv
  cases hk : ti.kd <;> cases p <;> simp only [ixV, hk] at h <;> first | exact h.none.elim | skip
  · rename_i s _
    obtain ⟨⟨h2, h3⟩, h⟩ := h.req
    have := h.ret; subst this
    have hx := hx.str_inv
    refine .value (x := .int .u8 (bat s j.toNat)) (w' := w) ?_ (Post.pure hg.mem .ofInt)
    have hlt : j.toNat < s.size := by omega
    have hb : s[j.toNat]? = some s[j.toNat] := getElem?_pos s j.toNat hlt
    have hq : (s[j.toNat].toNat : Int) = bat s j.toNat := by
      unfold bat
      rw [List.getD_eq_getElem?_getD, List.getElem?_eq_getElem (by simpa using hlt)]
      rfl
    simp only [execOp, hx, hy, Instr.index, asIntOf, Sem.run_bind, Sem.run_pure, Result.andThen_ok, run_underlying (hT.ustr hk), if_pos h2, hb, hq]
  · rename_i n el cs _
    obtain ⟨⟨h2, h3⟩, h⟩ := h.req
    rw [hk] at hF
    have hF := hF.resolve_left (by simp)
    simp only [Kd.elem] at hF
    obtain ⟨vals, hv, hr⟩ := hx.inv (by simp)
    have hv' : c.eval x = .agg vals.toArray := hv
    have : ∃ z, RV ρ (Stab B ρ e' w) w D v z ∧ (part el vals.toArray (j.toNat * tf.size)).run P w = .ok z w := by
      split at h
      · obtain ⟨h1, h⟩ := h.req
        obtain ⟨z, g1, g2⟩ := part_run (P := P) hF hr h
        exact ⟨z, g1, by simpa [h1] using g2⟩
      · obtain ⟨z, g1, g2⟩ := part_run (P := P) hF hr h
        exact ⟨z, g1, by simpa using g2⟩
    obtain ⟨z, g1, g2⟩ := this
    refine .value (x := z) (w' := w) ?_ (Post.pure hg.mem g1)
    simp only [execOp, hy, hv', Instr.index, asIntOf, Sem.run_bind, Sem.run_pure, Result.andThen_ok, run_underlying (hT.uarr hk)]
    rw [if_pos ⟨h2, h3⟩]
    simp only [Sem.run_bind, Result.andThen_ok, hF.run_size, g2]

end

end Sx
