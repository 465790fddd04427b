/- A call by contract. -/
import Derived.Test.YtakgcmponelbeaaDoorSxE
set_option linter.unusedVariables false
set_option linter.unusedSimpArgs false
namespace Sx
open Go

/-! ### Names in entries -/

def Row.nmIn (N : Nat → Prop) : Row → Prop
  | .avs _ l => AV.nmInL N l
  | _ => True
def Ent.nmIn (N : Nat → Prop) : Ent → Prop
  | .obj _ v => v.nmIn N
  | .vec _ r => r.nmIn N
def Row.free : Row → Bool
  | .avs _ l => AV.freeL l
  | _ => true
def Ent.free : Ent → Bool
  | .obj _ v => v.free
  | .vec _ r => r.free
def entsIn (N : Nat → Prop) : Ents → Prop
  | [] => True
  | (_, x) :: l => x.nmIn N ∧ entsIn N l
def entsFree : Ents → Bool
  | [] => true
  | (_, x) :: l => x.free && entsFree l
theorem entsIn_get {N : Nat → Prop} {e : Ents} (h : entsIn N e) : ∀ m x, lk e m = some x → x.nmIn N := by
  induction e with
  | nil => intro m x hm; cases hm
  | cons p e ih =>
    obtain ⟨k, y⟩ := p
    intro m x hm
    simp only [lk] at hm
    split at hm
    · cases hm; exact h.1
    · exact ih h.2 m x hm
theorem entsFree_get {e : Ents} (h : entsFree e = true) : ∀ m x, lk e m = some x → x.free = true := by
  induction e with
  | nil => intro m x hm; cases hm
  | cons p e ih =>
    obtain ⟨k, y⟩ := p
    intro m x hm
    simp only [entsFree, Bool.and_eq_true] at h
    simp only [lk] at hm
    split at hm
    · cases hm; exact h.1
    · exact ih h.2 m x hm

section
variable {ρ : Nat → Nat} {S S' : Nat → Prop} {w : World} {N N' : Nat → Prop}
theorem RowC.restrict {r : Row} {cs : List Value} (h : RowC ρ S w N r cs) : r.nmIn N' → RowC ρ S w N' r cs := by
  induction h with
  | ints => intro _; exact .ints
  | strs => intro _; exact .strs
  | nil => intro _; exact .nil
  | cons h1 hz _ ih => intro hn; exact .cons (h1.restrict hn.1) hz (ih hn.2)
theorem RowC.freed {r : Row} {cs : List Value} (h : RowC ρ S w N r cs) : r.free = true → RowC ρ S' w N r cs := by
  induction h with
  | ints => intro _; exact .ints
  | strs => intro _; exact .strs
  | nil => intro _; exact .nil
  | cons h1 hz _ ih => intro hn; simp only [Row.free, AV.freeL, Bool.and_eq_true] at hn; exact .cons (h1.freed hn.1) hz (ih (by simpa only [Row.free] using hn.2))
theorem EntR.restrict {b : Nat} {x : Ent} (h : EntR ρ S w N b x) (hn : x.nmIn N') : EntR ρ S w N' b x := by
  cases h with
  | obj h hb => exact .obj (h.restrict hn) hb
  | vec h hb hc => exact .vec (h.restrict hn) hb hc
theorem EntR.freed {b : Nat} {x : Ent} (h : EntR ρ S w N b x) (hn : x.free = true) : EntR ρ S' w N b x := by
  cases h with
  | obj h hb => exact .obj (h.freed hn) hb
  | vec h hb hc => exact .vec (h.freed hn) hb hc
theorem RV.restrict {a : AV} {v : Value} (h : RV ρ S w N a v) (hn : a.nmIn N') : RV ρ S w N' a v := by
  cases h with
  | one h => exact .one (h.restrict hn)
  | tup hl h => exact .tup hl (fun i x hi => let ⟨cs, h1, h2⟩ := h i x hi; ⟨cs, h1.restrict (AV.nmInL_get hn i x hi), h2⟩)
theorem RV.freed {a : AV} {v : Value} (h : RV ρ S w N a v) (hn : a.free = true) : RV ρ S' w N a v := by
  cases h with
  | one h => exact .one (h.freed hn)
  | tup hl h => simp only [AV.free] at hn; exact .tup hl (fun i x hi => let ⟨cs, h1, h2⟩ := h i x hi; ⟨cs, h1.freed (AV.freeL_get hn i x hi), h2⟩)
end

/-! ### What one owns, seen by value -/

/-- The row that an entry is. -/
def Ent.row : Ent → Option Row
  | .obj _ (.agg [.ints k _ xs]) => some (.ints k xs)
  | .vec _ r => some r
  | _ => none
def viewR (sz off len : Nat) : Row → Q AV
  | .ints k xs => req (sz = 1 ∧ off + len ≤ xs.length) (ret (.lstI k ((xs.drop off).take len)))
  | .strs ss => req (sz = 1 ∧ off + len ≤ ss.length) (ret (.lstS ((ss.drop off).take len)))
  | .avs s l => req (s = sz ∧ off + len ≤ l.length ∧ AV.nmInL NoNm ((l.drop off).take len)) (ret (.lst sz ((l.drop off).take len)))

/-- An argument: by name where its entry goes along (hn), else by value; was something seen by value? -/
def vw (e h : Ents) : AV → Q (AV × Bool)
  | .sl nm sz off len =>
    match lk h nm with
    | some _ => ret (.sl nm sz off len, false)
    | none => opt (lk e nm) fun x => opt x.row fun r => bnd (viewR sz off len r) fun v => ret (v, true)
  | .agg cs => bnd (vwL cs) fun r => ret (.agg r.1, r.2)
  | .ifc t v => bnd (vw e h v) fun r => ret (.ifc t r.1, r.2)
  | a => req (a.nmIn (Nm h)) (ret (a, false))
where
  vwL : List AV → Q (List AV × Bool)
  | [] => ret ([], false)
  | a :: l => bnd (vw e h a) fun r => bnd (vwL l) fun s => ret (r.1 :: s.1, r.2 || s.2)

theorem view_cells {ρ : Nat → Nat} {S : Nat → Prop} {w : World} {N : Nat → Prop} {b : Nat} {x : Ent} {r : Row} (h : EntR ρ S w N b x) (hr : x.row = some r) :
    ∃ c T cs, Cel w b c T ∧ RowC ρ S w N r cs ∧ c.toList.take cs.length = cs := by
  cases h with
  | obj h hb =>
    rename_i T v cs
    unfold Ent.row at hr
    split at hr
    · next heq =>
      cases heq
      cases hr
      cases h with
      | cons h1 h2 =>
        cases h2
        cases h1
        exact ⟨_, T, _, hb, .ints, by simp [List.take_of_length_le]⟩
    · next heq => cases heq
    · cases hr
  | vec h hb hc =>
    simp only [Ent.row, Option.some.injEq] at hr
    subst hr
    exact ⟨_, _, _, hb, h, hc⟩

theorem RowC.avs_at {ρ : Nat → Nat} {S : Nat → Prop} {w : World} {N : Nat → Prop} {sz : Nat} {l : List AV} {cs : List Value} (h : RowC ρ S w N (.avs sz l) cs) :
    ∃ vs : Nat → List Value, ∀ i (x : AV), l[i]? = some x → RC ρ S w N x (vs i) ∧ (vs i).length = sz ∧ ∀ j u, (vs i)[j]? = some u → cs[i * sz + j]? = some u := by
  have key : ∀ i, ∃ a, ∀ x : AV, l[i]? = some x → RC ρ S w N x a ∧ a.length = sz ∧ ∀ j u, a[j]? = some u → cs[i * sz + j]? = some u := by
    intro i
    cases hi : l[i]? with
    | none => exact ⟨[], fun x hx => by cases hx⟩
    | some x =>
      obtain ⟨a, h1, h2, h3⟩ := h.avs_get i x hi
      exact ⟨a, fun y hy => by cases hy; exact ⟨h1, h2, h3⟩⟩
  exact ⟨fun i => (key i).choose, fun i x hx => (key i).choose_spec x hx⟩

/-- The view of a slice of one's own. -/
theorem viewR_sound {ρ ρ' : Nat → Nat} {S S' : Nat → Prop} {w : World} {N N' : Nat → Prop} {nm sz off len : Nat} {x : Ent} {r : Row} {v : AV} {vals : List Value}
    (h : RC ρ S w N (.sl nm sz off len) vals) (hx : EntR ρ S w N (ρ nm) x) (hr : x.row = some r) (hv : Ok (viewR sz off len r) v) (hS : ∀ b, S b → S' b) (hb : S' (ρ nm)) :
    RC ρ' S' w N' v vals := by
  obtain ⟨c, T, cs, hb0, hrow, hc⟩ := view_cells hx hr
  have up : ∀ {a : AV} {l : List Value}, RC ρ S w NoNm a l → RC ρ' S' w NoNm a l := fun h => h.mono ⟨fun b hb => ⟨hS b hb, rfl⟩, fun b n h => h⟩ NoNm (fun _ h => h.elim)
  cases h with
  | sl _ ha hl hm _ _ =>
    rename_i cap a n0 hnm0 hblk0 hcap0
    -- a row that is not empty begins where it says
    have haddr : ∀ i, i < len → a = ⟨ρ nm, off * sz, none⟩ := by
      intro i hi
      rcases ha with ha | ⟨h0, _, _⟩
      · exact ha
      · omega
    cases hrow with
    | ints =>
      rename_i k xs
      simp only [viewR] at hv
      obtain ⟨⟨h1, h2⟩, h3⟩ := hv.req
      have h3 := h3.ret
      subst h1 h3
      have hlen : ((xs.drop off).take len).length = len := by rw [List.length_take, List.length_drop]; omega
      have := RC.lstI (ρ := ρ') (S := S') (w := w) (N := N') (k := k) (xs := (xs.drop off).take len) (a := some a) (cap := cap) (by omega) hm (fun i y hi => by
        have hi' : i < len := by have := (List.getElem?_eq_some_iff.1 hi).1; omega
        refine ⟨ρ nm, off, by rw [haddr i hi', Nat.mul_one], hb, ?_⟩
        rw [List.getElem?_take, if_pos hi', List.getElem?_drop] at hi
        exact cell_vec hb0 hc _ _ (by simp [hi]))
      rw [hlen] at this
      exact this
    | strs =>
      rename_i ss
      simp only [viewR] at hv
      obtain ⟨⟨h1, h2⟩, h3⟩ := hv.req
      have h3 := h3.ret
      subst h1 h3
      have hlen : ((ss.drop off).take len).length = len := by rw [List.length_take, List.length_drop]; omega
      have := RC.lstS (ρ := ρ') (S := S') (w := w) (N := N') (ss := (ss.drop off).take len) (a := some a) (cap := cap) (by omega) hm (fun i y hi => by
        have hi' : i < len := by have := (List.getElem?_eq_some_iff.1 hi).1; omega
        refine ⟨ρ nm, off, by rw [haddr i hi', Nat.mul_one], hb, ?_⟩
        rw [List.getElem?_take, if_pos hi', List.getElem?_drop] at hi
        exact cell_vec hb0 hc _ _ (by simp [hi]))
      rw [hlen] at this
      exact this
    | nil =>
      simp only [viewR] at hv
      obtain ⟨⟨h1, h2, hn⟩, h3⟩ := hv.req
      have h3 := h3.ret
      subst h1 h3
      simp only [List.length_nil] at h2
      obtain rfl : len = 0 := by omega
      simpa using RC.lst (ρ := ρ') (S := S') (w := w) (N := N') (l := []) (a := some a) (cap := cap) (fun _ => []) (by simp) hm (fun i x h => by simp at h) (fun i x h => by simp at h)
    | cons g1 gz g2 =>
      rename_i s y l a0 b0
      simp only [viewR] at hv
      obtain ⟨⟨h1, h2, hn⟩, h3⟩ := hv.req
      have h3 := h3.ret
      subst h1 h3
      obtain ⟨us, hus⟩ := (RowC.cons g1 gz g2).avs_at
      have hlen : (((y :: l).drop off).take len).length = len := by rw [List.length_take, List.length_drop]; omega
      have hget : ∀ i (x : AV), (((y :: l).drop off).take len)[i]? = some x → i < len ∧ (y :: l)[off + i]? = some x := by
        intro i x hi
        have hi' : i < len := by have := (List.getElem?_eq_some_iff.1 hi).1; omega
        rw [List.getElem?_take, if_pos hi', List.getElem?_drop] at hi
        exact ⟨hi', hi⟩
      have := RC.lst (ρ := ρ') (S := S') (w := w) (N := N') (sz := s) (l := ((y :: l).drop off).take len) (a := some a) (cap := cap) (fun i => us (off + i)) (by omega) hm
        (fun i x hi => up ((hus _ x (hget i x hi).2).1.restrict (AV.nmInL_get hn i x hi)))
        (fun i x hi => by
          obtain ⟨hi', hg⟩ := hget i x hi
          obtain ⟨_, hz, hcs⟩ := hus _ x hg
          refine ⟨hz, ρ nm, off * s, by rw [haddr i hi'], hb, fun j u hj => ?_⟩
          have := cell_vec hb0 hc _ _ (hcs j u hj)
          rwa [Nat.add_mul] at this)
      rw [hlen] at this
      exact this

section
variable {ρ : Nat → Nat} {S S' : Nat → Prop} {w : World} {N : Nat → Prop} {e h : Ents} {F : Bool}
theorem RC.widen {N' : Nat → Prop} {a : AV} {cs : List Value} (hr : RC ρ S w N a cs) (hS : ∀ b, S b → S' b) (hn : a.nmIn N') : RC ρ S' w N' a cs :=
  (hr.restrict hn).mono ⟨fun b hb => ⟨hS b hb, rfl⟩, fun b n h => h⟩ N' (fun n h => ⟨h, rfl⟩)
mutual
theorem vw_sound (hS : ∀ b, S b → S' b) (hE : ∀ nm x, lk e nm = some x → EntR ρ S w N (ρ nm) x) (hv : F = true → ∀ nm x, lk e nm = some x → lk h nm = none → S' (ρ nm)) :
    ∀ (a : AV) (cs : List Value) (a' : AV) (f : Bool), RC ρ S w N a cs → Ok (vw e h a) (a', f) → (f = true → F = true) → RC ρ S' w (Nm h) a' cs ∧ a'.isAgg = a.isAgg
  | .sl nm sz off len, cs, a', f, hr, hk, hf => by
    simp only [vw] at hk
    split at hk
    · next y hy => cases hk.ret; exact ⟨hr.widen hS (by simp [AV.nmIn, Nm, hy]), rfl⟩
    · next hy =>
      obtain ⟨x, hx, hk⟩ := hk.opt
      obtain ⟨r, hr', hk⟩ := hk.opt
      obtain ⟨v, hv', hk⟩ := hk.bnd
      cases hk.ret
      refine ⟨viewR_sound hr (hE nm x hx) hr' hv' hS (hv (hf rfl) nm x hx hy), ?_⟩
      cases r <;> simp only [viewR] at hv' <;> (have := hv'.req.2.ret; subst this; rfl)
  | .agg cs0, cs, a', f, hr, hk, hf => by
    simp only [vw] at hk
    obtain ⟨⟨l, g⟩, h1, hk⟩ := hk.bnd
    cases hk.ret
    exact ⟨vwL_sound hS hE hv cs0 cs l g hr h1 hf, rfl⟩
  | .ifc t v, cs, a', f, hr, hk, hf => by
    simp only [vw] at hk
    obtain ⟨⟨l, g⟩, h1, hk⟩ := hk.bnd
    cases hk.ret
    cases hr with
    | ifc hr =>
      obtain ⟨h2, h3⟩ := vw_sound hS hE hv v _ l g hr h1 hf
      refine ⟨?_, rfl⟩
      have : ∀ cs, shape v cs = shape l cs := fun cs => by simp only [shape, h3]
      rw [this]
      exact .ifc h2
  | .int k n, cs, a', f, hr, hk, hf => by simp only [vw] at hk; cases hk.req.2.ret; exact ⟨hr.widen hS hk.req.1, rfl⟩
  | .bool b, cs, a', f, hr, hk, hf => by simp only [vw] at hk; cases hk.req.2.ret; exact ⟨hr.widen hS hk.req.1, rfl⟩
  | .str b, cs, a', f, hr, hk, hf => by simp only [vw] at hk; cases hk.req.2.ret; exact ⟨hr.widen hS hk.req.1, rfl⟩
  | .ints k n xs, cs, a', f, hr, hk, hf => by simp only [vw] at hk; cases hk.req.2.ret; exact ⟨hr.widen hS hk.req.1, rfl⟩
  | .tup l, cs, a', f, hr, hk, hf => by simp only [vw] at hk; cases hk.req.2.ret; exact ⟨hr.widen hS hk.req.1, rfl⟩
  | .ptr nm o i sz, cs, a', f, hr, hk, hf => by simp only [vw] at hk; cases hk.req.2.ret; exact ⟨hr.widen hS hk.req.1, rfl⟩
  | .pel v, cs, a', f, hr, hk, hf => by simp only [vw] at hk; cases hk.req.2.ret; exact ⟨hr.widen hS hk.req.1, rfl⟩
  | .nils, cs, a', f, hr, hk, hf => by simp only [vw] at hk; cases hk.req.2.ret; exact ⟨hr.widen hS hk.req.1, rfl⟩
  | .nilp, cs, a', f, hr, hk, hf => by simp only [vw] at hk; cases hk.req.2.ret; exact ⟨hr.widen hS hk.req.1, rfl⟩
  | .nilf, cs, a', f, hr, hk, hf => by simp only [vw] at hk; cases hk.req.2.ret; exact ⟨hr.widen hS hk.req.1, rfl⟩
  | .nili, cs, a', f, hr, hk, hf => by simp only [vw] at hk; cases hk.req.2.ret; exact ⟨hr.widen hS hk.req.1, rfl⟩
  | .nilm, cs, a', f, hr, hk, hf => by simp only [vw] at hk; cases hk.req.2.ret; exact ⟨hr.widen hS hk.req.1, rfl⟩
  | .lstI k xs, cs, a', f, hr, hk, hf => by simp only [vw] at hk; cases hk.req.2.ret; exact ⟨hr.widen hS hk.req.1, rfl⟩
  | .lstS ss, cs, a', f, hr, hk, hf => by simp only [vw] at hk; cases hk.req.2.ret; exact ⟨hr.widen hS hk.req.1, rfl⟩
  | .lst sz l, cs, a', f, hr, hk, hf => by simp only [vw] at hk; cases hk.req.2.ret; exact ⟨hr.widen hS hk.req.1, rfl⟩
  | .fn g cap, cs, a', f, hr, hk, hf => by simp only [vw] at hk; cases hk.req.2.ret; exact ⟨hr.widen hS hk.req.1, rfl⟩
  | .mp nm, cs, a', f, hr, hk, hf => by simp only [vw] at hk; cases hk.req.2.ret; exact ⟨hr.widen hS hk.req.1, rfl⟩
theorem vwL_sound (hS : ∀ b, S b → S' b) (hE : ∀ nm x, lk e nm = some x → EntR ρ S w N (ρ nm) x) (hv : F = true → ∀ nm x, lk e nm = some x → lk h nm = none → S' (ρ nm)) :
    ∀ (l : List AV) (cs : List Value) (l' : List AV) (f : Bool), RC ρ S w N (.agg l) cs → Ok (vw.vwL e h l) (l', f) → (f = true → F = true) → RC ρ S' w (Nm h) (.agg l') cs
  | [], cs, l', f, hr, hk, hf => by
    simp only [vw.vwL] at hk
    cases hk.ret
    cases hr
    exact .nil
  | a :: l, cs, l', f, hr, hk, hf => by
    simp only [vw.vwL] at hk
    obtain ⟨⟨a1, f1⟩, h1, hk⟩ := hk.bnd
    obtain ⟨⟨l1, g1⟩, h2, hk⟩ := hk.bnd
    cases hk.ret
    cases hr with
    | cons r1 r2 =>
      exact .cons (vw_sound hS hE hv a _ a1 f1 r1 h1 (fun q => hf (by simp [q]))).1 (vwL_sound hS hE hv l _ l1 g1 r2 h2 (fun q => hf (by simp [q])))
end
end

theorem AV.nmInL_mk {N : Nat → Prop} : ∀ {l : List AV}, (∀ (i : Nat) x, l[i]? = some x → x.nmIn N) → AV.nmInL N l
  | [], _ => trivial
  | a :: l, h => ⟨h 0 a rfl, AV.nmInL_mk (fun i x hi => h (i + 1) x (by simpa using hi))⟩
theorem RC.nm {ρ : Nat → Nat} {S : Nat → Prop} {w : World} {N : Nat → Prop} {a : AV} {cs : List Value} (h : RC ρ S w N a cs) : a.nmIn N := by
  induction h with
  | cons _ _ ih1 ih2 => exact ⟨ih1, ih2⟩
  | ptr h => exact h
  | sl h => exact h
  | mp h => exact h
  | fn vs _ ih => exact AV.nmInL_mk (fun i x hi => ih i x hi)
  | ifc _ ih => exact ih
  | _ => trivial
mutual
theorem AV.nmIn_and {N N' : Nat → Prop} : ∀ a : AV, a.nmIn N → a.nmIn N' → a.nmIn (fun n => N n ∧ N' n)
  | .agg cs, h, h' => AV.nmInL_and cs h h'
  | .tup cs, h, h' => AV.nmInL_and cs h h'
  | .fn _ cs, h, h' => AV.nmInL_and cs h h'
  | .ifc _ v, h, h' => AV.nmIn_and v h h'
  | .ptr _ _ _ _, h, h' => ⟨h, h'⟩
  | .sl _ _ _ _, h, h' => ⟨h, h'⟩
  | .mp _, h, h' => ⟨h, h'⟩
  | .int _ _, _, _ | .bool _, _, _ | .str _, _, _ | .ints _ _ _, _, _ | .pel _, _, _ | .nils, _, _ | .nilp, _, _ | .nilf, _, _ | .nili, _, _ | .nilm, _, _ | .lstI _ _, _, _ | .lstS _, _, _ | .lst _ _, _, _ => trivial
theorem AV.nmInL_and {N N' : Nat → Prop} : ∀ l : List AV, AV.nmInL N l → AV.nmInL N' l → AV.nmInL (fun n => N n ∧ N' n) l
  | [], _, _ => trivial
  | a :: l, h, h' => ⟨AV.nmIn_and a h.1 h'.1, AV.nmInL_and l h.2 h'.2⟩
end
section
variable {ρ : Nat → Nat} {S : Nat → Prop} {w : World} {N N' : Nat → Prop}
theorem RC.restrict2 {a : AV} {cs : List Value} (h : RC ρ S w N a cs) (hn : a.nmIn N') : RC ρ S w (fun n => N' n ∧ N n) a cs := h.restrict (AV.nmIn_and a hn h.nm)
theorem RowC.restrict2 {r : Row} {cs : List Value} (h : RowC ρ S w N r cs) : r.nmIn N' → RowC ρ S w (fun n => N' n ∧ N n) r cs := by
  induction h with
  | ints => intro _; exact .ints
  | strs => intro _; exact .strs
  | nil => intro _; exact .nil
  | cons h1 hz _ ih => intro hn; exact .cons (h1.restrict2 hn.1) hz (ih hn.2)
theorem EntR.restrict2 {b : Nat} {x : Ent} (h : EntR ρ S w N b x) (hn : x.nmIn N') : EntR ρ S w (fun n => N' n ∧ N n) b x := by
  cases h with
  | obj h hb => exact .obj (h.restrict2 hn) hb
  | vec h hb hc => exact .vec (h.restrict2 hn) hb hc
theorem RV.restrict2 {a : AV} {v : Value} (h : RV ρ S w N a v) (hn : a.nmIn N') : RV ρ S w (fun n => N' n ∧ N n) a v := by
  cases h with
  | one h => exact .one (h.restrict2 hn)
  | tup hl h => exact .tup hl (fun i x hi => let ⟨cs, h1, h2⟩ := h i x hi; ⟨cs, h1.restrict2 (AV.nmInL_get hn i x hi), h2⟩)
end

end Sx
