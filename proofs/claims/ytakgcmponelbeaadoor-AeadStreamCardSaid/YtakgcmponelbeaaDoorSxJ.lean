/- Slices of slices, strings and bytes, lengths. -/
import Derived.Test.YtakgcmponelbeaaDoorSxI
set_option linter.unusedVariables false
set_option linter.unusedSimpArgs false
namespace Sx
open Go

/-- The bytes of a string, and back. -/
def bytesOf (s : ByteArray) : List Int := s.data.toList.map fun b => (b.toNat : Int)
def strOf (xs : List Int) : ByteArray := ⟨(xs.map fun n => UInt8.ofNat n.toNat).toArray⟩

/-- An optional bound. -/
def bd (G : Nat → Option AV) (t : Tms) : Option Operand → Option (Option Int)
  | none => some none
  | some x => match ev G t x with
    | some (.int _ j) => some (some j)
    | _ => none
/-- Both bounds of a slice of so many. -/
def bds (len : Nat) (lo hi : Option Int) : Q (Nat × Nat) :=
  match lo, hi with
  | none, none => ret (0, len)
  | some l, none => req (0 ≤ l ∧ l.toNat ≤ len) (ret (l.toNat, len))
  | none, some h => req (0 ≤ h ∧ h.toNat ≤ len) (ret (0, h.toNat))
  | some l, some h => req (0 ≤ l ∧ l.toNat ≤ h.toNat ∧ 0 ≤ h ∧ h.toNat ≤ len) (ret (l.toNat, h.toNat))

def slF (tt : Nat → Option TI) (e : Ents) (ti : TI) (p : AV) (lo hi : Option Int) : Q AV :=
  match ti.kd, p with
  | .arr n el, .ptr nm o i sz => opt (tt el) fun tf => opt (lk e nm) fun x =>
    match x with
    | .obj _ v => req (o = 0 ∧ i = 0 ∧ n ≤ 9223372036854775807 ∧ szL (comps v) = some (n * tf.size)) (bnd (bds n lo hi) fun q => ret (.sl nm tf.size q.1 (q.2 - q.1)))
    | _ => none
  | .arr n el, .pel v =>
    match v with
    | .agg [.ints k m xs] => opt (tt el) fun tf => req (m = n ∧ tf.size = 1 ∧ n ≤ 9223372036854775807) (bnd (bds n lo hi) fun q => ret (.lstI k ((xs.take q.2).drop q.1)))
    | _ => none
  | .slice el, .sl nm sz off len => opt (tt el) fun tf => req (tf.size = sz) (bnd (bds len lo hi) fun q => ret (.sl nm sz (off + q.1) (q.2 - q.1)))
  | .slice el, .lstI k xs => opt (tt el) fun tf => req (tf.size = 1) (bnd (bds xs.length lo hi) fun q => ret (.lstI k ((xs.take q.2).drop q.1)))
  | .slice el, .lstS ss => opt (tt el) fun tf => req (tf.size = 1) (bnd (bds ss.length lo hi) fun q => ret (.lstS ((ss.take q.2).drop q.1)))
  | .slice el, .lst sz l => opt (tt el) fun tf => req (tf.size = sz) (bnd (bds l.length lo hi) fun q => ret (.lst sz ((l.take q.2).drop q.1)))
  | .slice el, .nils => opt (tt el) fun _ => bnd (bds 0 lo hi) fun _ => ret .nils
  | .str, .str s => bnd (bds s.size lo hi) fun q => ret (.str (s.extract q.1 q.2))
  | _, _ => none

section
variable {P : Program} {G : Nat → Option AV} {t : Tms} {e : Ents} {nb : Nat} {dst : Option Tmp} {ty : TypeId} {pos : String} {after : Array Edge} {gd : Option (Nat × Bool)}

/-- What the model makes of the bounds. -/
theorem run_bds (isSlice : Bool) {len cap l h : Nat} {lo hi : Option Int} (w : World) (hb : Ok (bds len lo hi) (l, h)) (hl : len ≤ cap) (k1 k2 : IntKind) :
    (Instr.sliceBounds isSlice len cap (lo.map (Value.int k1)) (hi.map (Value.int k2)) none).run P w = .ok (l, h, cap) w ∧ l ≤ h ∧ h ≤ len := by
  cases lo <;> cases hi <;> simp only [bds] at hb
  · have := hb.ret; cases this
    exact ⟨by simp [Instr.sliceBounds], Nat.zero_le _, Nat.le_refl _⟩
  · obtain ⟨⟨h1, h2⟩, h3⟩ := hb.req
    have := h3.ret; cases this
    refine ⟨?_, Nat.zero_le _, h2⟩
    simp only [Instr.sliceBounds, Option.map_some, Option.map_none, Sem.run_bind, Sem.run_pure, Result.andThen_ok]
    rw [run_sliceBound w _ _ _ _ h1 (by omega)]
    simp
  · obtain ⟨⟨h1, h2⟩, h3⟩ := hb.req
    have := h3.ret; cases this
    refine ⟨?_, h2, Nat.le_refl _⟩
    simp only [Instr.sliceBounds, Option.map_some, Option.map_none, Sem.run_bind, Sem.run_pure, Result.andThen_ok]
    rw [run_sliceBound w _ _ _ _ h1 (by omega)]
    simp
  · obtain ⟨⟨h1, h2, h3, h4⟩, h5⟩ := hb.req
    have := h5.ret; cases this
    refine ⟨?_, h2, h4⟩
    simp only [Instr.sliceBounds, Option.map_some, Option.map_none, Sem.run_bind, Sem.run_pure, Result.andThen_ok]
    rw [run_sliceBound w _ _ _ _ h3 (by omega)]
    simp only [Result.andThen_ok]
    rw [run_sliceBound w _ _ _ _ h1 (by omega)]
    simp

theorem bd_sound {B : Nat → Prop} {ρ : Nat → Nat} {D : Nat → Prop} {t' : Tms} {e' : Ents} {a : Act} {w : World} (hg : Good B G ρ D t' e' a w) (hl : Le t t') {x : Option Operand} {r : Option Int} (h : bd G t x = some r) :
    ∃ k, x.map a.eval = r.map (Value.int k) := by
  cases x with
  | none => cases h; exact ⟨.i64, rfl⟩
  | some x =>
    simp only [bd] at h
    split at h
    · next k j hj => cases h; exact ⟨k, by simp [(ev_sound hg hl hj).int_inv]⟩
    · cases h

theorem addr_eq {b o cap l sz : Nat} (h : l ≤ cap) : (if cap = l then (some ⟨b, o, none⟩ : Option Addr) else (some (⟨b, o, none⟩ : Addr)).map (·.add (l * sz))) = some ⟨b, o + l * sz, none⟩ ∨ (cap - l = 0 ∧ (if cap = l then (some ⟨b, o, none⟩ : Option Addr) else (some (⟨b, o, none⟩ : Addr)).map (·.add (l * sz))) = some ⟨b, o, none⟩) := by
  by_cases hq : cap = l
  · rw [if_pos hq]; exact .inr ⟨by omega, rfl⟩
  · rw [if_neg hq]; left; simp [addr_add]

theorem sound_slice {tt : Nat → Option TI} (hTT : TT P tt) {T : Nat} {ti : TI} {x : Operand} {lo hi : Option Operand} {rl rh : Option Int} {p v : AV} (hT : TyOK P T ti) (hx : ev G t x = some p) (hlo : bd G t lo = some rl) (hhi : bd G t hi = some rh) (h : Ok (slF tt e ti p rl rh) v) :
    OpSound P G t e nb ⟨dst, .slice T x lo hi none, ty, pos, after, gd⟩ v [] := by
  intro B ρ D t' e' c w ht hle hg _
  have hx := ev_sound hg ht hx
  obtain ⟨k1, hk1⟩ := bd_sound hg ht hlo
  obtain ⟨k2, hk2⟩ := bd_sound hg ht hhi
  -- a slice, by the model
  have sli : ∀ (el : Nat) (tf : TI) (a : Option Addr) (len cap l h : Nat), ti.kd = .slice el → tt el = some tf → c.eval x = .slice a len cap → len ≤ cap → Ok (bds len rl rh) (l, h) →
      (execOp c.eval ⟨dst, .slice T x lo hi none, ty, pos, after, gd⟩).run P w = .ok (.value (.slice (if cap = l then a else a.map (·.add (l * tf.size))) (h - l) (cap - l))) w ∧ l ≤ h ∧ h ≤ len := by
    intro el tf a len cap l h hk htf hv hlc hb
    obtain ⟨g1, g2, g3⟩ := run_bds (P := P) true (cap := cap) w hb hlc k1 k2
    refine ⟨?_, g2, g3⟩
    simp only [execOp, hk1, hk2, hv, Option.map_none, Instr.sliceAt, Instr.slice, Sem.run_bind, run_underlying (hT.uslice hk), Result.andThen_ok, g1, (hTT _ _ htf).run_size, Sem.run_pure]
  cases hk : ti.kd <;> cases p <;> simp only [slF, hk] at h <;> first | exact h.none.elim | skip
  · -- a string
    rename_i s _
    obtain ⟨⟨l, h'⟩, hb, h⟩ := h.bnd
    have := h.ret; subst this
    obtain ⟨g1, g2, g3⟩ := run_bds (P := P) false (cap := s.size) w hb (Nat.le_refl _) k1 k2
    refine .value (x := .string (s.extract l h')) (w' := w) ?_ (Post.pure hg.mem .ofStr)
    simp only [execOp, hk1, hk2, hx.str_inv, Option.map_none, Instr.sliceAt, Instr.slice, Sem.run_bind, run_underlying (hT.ustr hk), Result.andThen_ok, Option.isSome_none, Bool.false_eq_true, if_false, g1, Sem.run_pure]
  · -- one's own
    rename_i el nm sz off len _
    obtain ⟨tf, htf, h⟩ := h.opt
    obtain ⟨h1, h⟩ := h.req
    obtain ⟨⟨l, h'⟩, hb, h⟩ := h.bnd
    have := h.ret; subst this
    obtain ⟨cs, hv, hr⟩ := hx.inv (by simp)
    cases hr with
    | sl hn ha hl hm hb0 hc =>
      rename_i cap a c0
      obtain ⟨g1, g2, g3⟩ := sli el tf _ _ _ l h' hk htf hv hl hb
      rw [h1] at g1
      refine .value g1 (Post.pure hg.mem ?_)
      have hcap : (off + l + (cap - l)) * sz = c0 := by rw [← hc]; congr 1; omega
      rcases ha with ha | ⟨h0, ha1, ha2⟩
      · subst ha
        rcases addr_eq (b := ρ nm) (o := off * sz) (sz := sz) (show l ≤ cap by omega) with hq | ⟨hz, hq⟩
        · rw [hq]
          exact .one (cs := [_]) (.sl hn (.inl (by simp [Nat.add_mul])) (by omega) (by omega) hb0 hcap)
        · rw [hq]
          exact .one (cs := [_]) (.sl hn (.inr ⟨hz, rfl, rfl⟩) (by omega) (by omega) hb0 hcap)
      · have hl0 : l = 0 := by omega
        subst hl0
        rw [if_pos (by omega)]
        exact .one (cs := [_]) (.sl hn (.inr ⟨by omega, ha1, ha2⟩) (by omega) (by omega) hb0 hcap)
  · -- nil
    rename_i el _
    obtain ⟨tf, htf, h⟩ := h.opt
    obtain ⟨⟨l, h'⟩, hb, h⟩ := h.bnd
    have := h.ret; subst this
    obtain ⟨cs, hv, hr⟩ := hx.inv (by simp)
    cases hr with
    | nils =>
      obtain ⟨g1, g2, g3⟩ := sli el tf none 0 0 l h' hk htf hv (Nat.le_refl _) hb
      have hl0 : l = 0 := by omega
      have hh0 : h' = 0 := by omega
      subst hl0 hh0
      exact .value g1 (Post.pure hg.mem (.one (cs := [_]) .nils))
  · rename_i el k xs _
    obtain ⟨tf, htf, h⟩ := h.opt
    obtain ⟨h1, h⟩ := h.req
    obtain ⟨⟨l, h'⟩, hb, h⟩ := h.bnd
    have := h.ret; subst this
    obtain ⟨cs, hv, hr⟩ := hx.inv (by simp)
    cases hr with
    | lstI hl hm hc =>
      rename_i a cap
      obtain ⟨g1, g2, g3⟩ := sli el tf a xs.length cap l h' hk htf hv hl hb
      refine .value g1 (Post.pure hg.mem ?_)
      have hlen : ((xs.take h').drop l).length = h' - l := by simp; omega
      have := RC.lstI (ρ := ρ) (S := Stab B ρ e' w) (w := w) (N := D) (k := k) (xs := (xs.take h').drop l) (a := if cap = l then a else a.map (·.add (l * tf.size))) (cap := cap - l) (by omega) (by omega) (fun i y hi => by
        have hlt := (List.getElem?_eq_some_iff.1 hi).1
        rw [hlen] at hlt
        rw [List.getElem?_drop, List.getElem?_take, if_pos (by omega)] at hi
        obtain ⟨b, o, rfl, hS, hcell⟩ := hc _ _ hi
        refine ⟨b, o + l, ?_, hS, by rw [Nat.add_assoc]; exact hcell⟩
        rw [if_neg (by omega), h1]
        simp [addr_add])
      rw [hlen] at this
      exact .one (cs := [_]) this
  · rename_i el ss _
    obtain ⟨tf, htf, h⟩ := h.opt
    obtain ⟨h1, h⟩ := h.req
    obtain ⟨⟨l, h'⟩, hb, h⟩ := h.bnd
    have := h.ret; subst this
    obtain ⟨cs, hv, hr⟩ := hx.inv (by simp)
    cases hr with
    | lstS hl hm hc =>
      rename_i a cap
      obtain ⟨g1, g2, g3⟩ := sli el tf a ss.length cap l h' hk htf hv hl hb
      refine .value g1 (Post.pure hg.mem ?_)
      have hlen : ((ss.take h').drop l).length = h' - l := by simp; omega
      have := RC.lstS (ρ := ρ) (S := Stab B ρ e' w) (w := w) (N := D) (ss := (ss.take h').drop l) (a := if cap = l then a else a.map (·.add (l * tf.size))) (cap := cap - l) (by omega) (by omega) (fun i y hi => by
        have hlt := (List.getElem?_eq_some_iff.1 hi).1
        rw [hlen] at hlt
        rw [List.getElem?_drop, List.getElem?_take, if_pos (by omega)] at hi
        obtain ⟨b, o, rfl, hS, hcell⟩ := hc _ _ hi
        refine ⟨b, o + l, ?_, hS, by rw [Nat.add_assoc]; exact hcell⟩
        rw [if_neg (by omega), h1]
        simp [addr_add])
      rw [hlen] at this
      exact .one (cs := [_]) this
  · rename_i el sz xs _
    obtain ⟨tf, htf, h⟩ := h.opt
    obtain ⟨h1, h⟩ := h.req
    obtain ⟨⟨l, h'⟩, hb, h⟩ := h.bnd
    have := h.ret; subst this
    obtain ⟨cs, hv, hr⟩ := hx.inv (by simp)
    cases hr with
    | lst vs hl hm hr hc =>
      rename_i a cap
      obtain ⟨g1, g2, g3⟩ := sli el tf a xs.length cap l h' hk htf hv hl hb
      refine .value g1 (Post.pure hg.mem ?_)
      have hlen : ((xs.take h').drop l).length = h' - l := by simp; omega
      have hget : ∀ i (y : AV), ((xs.take h').drop l)[i]? = some y → i < h' - l ∧ xs[l + i]? = some y := by
        intro i y hi
        have hlt := (List.getElem?_eq_some_iff.1 hi).1
        rw [hlen] at hlt
        rw [List.getElem?_drop, List.getElem?_take, if_pos (by omega)] at hi
        exact ⟨hlt, hi⟩
      have := RC.lst (ρ := ρ) (S := Stab B ρ e' w) (w := w) (N := D) (sz := sz) (l := (xs.take h').drop l) (a := if cap = l then a else a.map (·.add (l * tf.size))) (cap := cap - l) (fun i => vs (l + i)) (by omega) (by omega)
        (fun i y hi => hr _ _ (hget i y hi).2)
        (fun i y hi => by
          obtain ⟨hlt, hi'⟩ := hget i y hi
          obtain ⟨hz, b, o, rfl, hS, hcell⟩ := hc _ _ hi'
          refine ⟨hz, b, o + l * sz, ?_, hS, fun j u hj => ?_⟩
          · rw [if_neg (by omega), h1]
            simp [addr_add]
          · have := hcell j u hj
            rwa [Nat.add_mul, ← Nat.add_assoc] at this)
      rw [hlen] at this
      exact .one (cs := [_]) this
  · -- of an array of one's own
    rename_i n el nm o i sz _
    obtain ⟨tf, htf, h⟩ := h.opt
    obtain ⟨z, hz, h⟩ := h.opt
    cases z with
    | vec => exact h.none.elim
    | obj T0 v0 =>
      obtain ⟨⟨h1, h2, h3, h4⟩, h'⟩ := h.req
      clear h
      subst h1 h2
      obtain ⟨⟨l, h''⟩, hb, h5⟩ := h'.bnd
      have := h5.ret; subst this
      obtain ⟨cs, hv, hr⟩ := hx.inv (by simp)
      cases hr with
      | ptr hn =>
        have hv' : c.eval x = .pointer (some ⟨ρ nm, 0, none⟩) := by simpa [shape, AV.isAgg] using hv
        have he := (hg.mem.en nm _ (hle _ _ hz)).2
        cases he with
        | obj hr0 hb0 =>
          have hsz := hr0.comps.szL h4
          obtain ⟨g1, g2, g3⟩ := run_bds (P := P) false (cap := n) w hb (Nat.le_refl _) k1 k2
          refine .value (x := .slice (if n = l then some ⟨ρ nm, 0, none⟩ else (some (⟨ρ nm, 0, none⟩ : Addr)).map (·.add (l * tf.size))) (h'' - l) (n - l)) (w' := w) ?_ (Post.pure hg.mem ?_)
          · simp only [execOp, hk1, hk2, hv', Option.map_none, Instr.sliceAt, Instr.sureAddr, Sem.run_bind, run_underlying (hT.uarr hk), Result.andThen_ok, g1, (hTT _ _ htf).run_size, Sem.run_pure]
            split <;> rfl
          · have hcap : (l + (n - l)) * tf.size = n * tf.size := by congr 1; omega
            have hm : n - l ≤ maxLen := by simp only [Go.maxLen]; omega
            rcases addr_eq (b := ρ nm) (o := 0) (sz := tf.size) (show l ≤ n by omega) with hq | ⟨hz, hq⟩
            · rw [hq]
              exact .one (cs := [_]) (.sl hn (.inl (by simp)) (by omega) hm hb0.rw (by rw [hcap, ← hsz]; simp))
            · rw [hq]
              exact .one (cs := [_]) (.sl hn (.inr ⟨hz, rfl, rfl⟩) (by omega) hm hb0.rw (by rw [hcap, ← hsz]; simp))
  · -- of an array that nobody writes
    rename_i n el v0 _
    split at h
    · next k m xs _ =>
      obtain ⟨tf, htf, h⟩ := h.opt
      obtain ⟨⟨h1, h2, h3⟩, h'⟩ := h.req
      clear h
      subst h1
      obtain ⟨⟨l, h''⟩, hb, h5⟩ := h'.bnd
      have := h5.ret; subst this
      obtain ⟨cs, hv, hr⟩ := hx.inv (by simp)
      cases hr with
      | pel hr0 hS hc =>
        rename_i b o vals
        have hv' : c.eval x = .pointer (some ⟨b, o, none⟩) := hv
        cases hr0 with
        | cons r1 r2 =>
          cases r2
          cases r1 with
          | ints hlen =>
            obtain ⟨g1, g2, g3⟩ := run_bds (P := P) false (cap := m) w hb (Nat.le_refl _) k1 k2
            refine .value (x := .slice (if m = l then some ⟨b, o, none⟩ else (some (⟨b, o, none⟩ : Addr)).map (·.add (l * tf.size))) (h'' - l) (m - l)) (w' := w) ?_ (Post.pure hg.mem ?_)
            · simp only [execOp, hk1, hk2, hv', Option.map_none, Instr.sliceAt, Instr.sureAddr, Sem.run_bind, run_underlying (hT.uarr hk), Result.andThen_ok, g1, (hTT _ _ htf).run_size, Sem.run_pure]
              split <;> rfl
            · have hll : ((xs.take h'').drop l).length = h'' - l := by simp; omega
              have hm : m - l ≤ maxLen := by simp only [Go.maxLen]; omega
              have := RC.lstI (ρ := ρ) (S := Stab B ρ e' w) (w := w) (N := D) (k := k) (xs := (xs.take h'').drop l) (a := if m = l then some ⟨b, o, none⟩ else (some (⟨b, o, none⟩ : Addr)).map (·.add (l * tf.size))) (cap := m - l) (by omega) hm (fun i y hi => by
                have hlt := (List.getElem?_eq_some_iff.1 hi).1
                rw [hll] at hlt
                rw [List.getElem?_drop, List.getElem?_take, if_pos (by omega)] at hi
                refine ⟨b, o + l, ?_, hS, ?_⟩
                · rw [if_neg (by omega), h2]
                  simp [addr_add]
                · rw [Nat.add_assoc]
                  exact hc (l + i) _ (by simp [hi]))
              rw [hll] at this
              exact .one (cs := [_]) this
    · exact h.none.elim

end

end Sx
