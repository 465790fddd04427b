/- Conversions together. -/
import Derived.Test.YtakgcmponelbeaaDoorSxU
set_option linter.unusedVariables false
set_option linter.unusedSimpArgs false
namespace Sx
open Go

def cvQ (tt : Nat → Option TI) (e : Ents) (T1 T2 : Nat) (t1 t2 : TI) (v : AV) : Q AV :=
  match t1.kd, t2.kd, v with
  | .int _, .int k, .int _ n => ret (.int k (k.wrap n))
  | .str, .str, .str s => ret (.str s)
  | .slice el, .slice _, .sl nm sz off len => opt (tt el) fun te => match te.kd with
    | .int .u8 => opt (lk e nm) fun _ => req (T1 = T2) (ret (.sl nm sz off len))
    | _ => none
  | _, _, v => s2bQ tt e t1 t2 v

theorem heap_freeze {w : World} {b n : Nat} {c : Array Value} {T : TypeId} (h : Cel w b c T) (hn : n = c.size) : Cel (w.freeze ⟨b, n, none⟩ 1) b c T ∧ (∀ b' : Nat, b' ≠ b → (w.freeze ⟨b, n, none⟩ 1).heap[b']? = w.heap[b']?) ∧ (w.freeze ⟨b, n, none⟩ 1).heap.size = w.heap.size := by
  subst hn
  obtain ⟨fr, h, hfr⟩ := h
  refine ⟨⟨(c.size, c.size + 1), ?_, .inr rfl⟩, fun b' hb => ?_, ?_⟩
  · unfold World.freeze
    rw [if_neg (by decide)]
    simp only [Array.getElem?_modify, h]
    rcases hfr with rfl | rfl
    · simp
    · simp
  · unfold World.freeze
    rw [if_neg (by decide)]
    simp only [Array.getElem?_modify]
    rw [if_neg (Ne.symm hb)]
  · unfold World.freeze
    rw [if_neg (by decide)]
    simp

section
variable {P : Program} {tt : Nat → Option TI} {G : Nat → Option AV} {t : Tms} {e : Ents} {nb : Nat} {dst : Option Tmp} {ty : TypeId} {pos : String} {after : Array Edge} {gd : Option (Nat × Bool)}

theorem sound_cv (hTT : TT P tt) {T1 T2 : Nat} {t1 t2 : TI} {x : Operand} {p v : AV} (h1 : TyOK P T1 t1) (h2 : TyOK P T2 t2) (hx : ev G t x = some p) (h : Ok (cvQ tt e T1 T2 t1 t2 p) v) :
    OpSound P G t e nb ⟨dst, .convert T1 T2 x, ty, pos, after, gd⟩ v [] := by
  unfold cvQ at h
  split at h
  · next hk1 hk2 => cases h.ret; exact sound_conv_int h1 h2 hk1 hk2 hx
  · next hk1 hk2 =>
    cases h.ret
    intro B ρ D t' e' a w ht hle hg _
    have hv := (ev_sound hg ht hx).str_inv
    refine .value (x := .string _) (w' := w) ?_ (Post.pure hg.mem .ofStr)
    simp [execOp, hv, convert, run_underlying (h1.ustr hk1), run_underlying (h2.ustr hk2)]
  · next el el2 nm sz off len hk1 hk2 =>
    have hh := h.opt
    clear h
    obtain ⟨te, he, h⟩ := hh
    split at h
    · next hk =>
      have hh := h.opt
      clear h
      obtain ⟨z, hz, h⟩ := hh
      obtain ⟨hT, h⟩ := h.req
      cases h.ret
      subst hT
      intro B ρ D t' e' a w ht hle hg _
      obtain ⟨cs, hu, hr⟩ := (ev_sound hg ht hx).inv (by simp)
      cases hr with
      | sl hn ha hl hm hb hc =>
      rename_i cap ad n0
      have hze := hle _ _ hz
      have hent := (hg.mem.en _ _ hze).2
      have hcel : ∃ c T, Cel w (ρ nm) c T := by
        cases hent with
        | obj _ hb => exact ⟨_, _, hb⟩
        | vec _ hb _ => exact ⟨_, _, hb⟩
      obtain ⟨c, T, hcel⟩ := hcel
      have hab : ad.block = ρ nm := by
        rcases ha with rfl | ⟨_, h, _⟩
        · rfl
        · exact h
      obtain ⟨f1, f2, f3⟩ := heap_freeze hcel rfl
      have hsh : w.shape? (ρ nm) = some (T, c.size) := by
        obtain ⟨fr, h, _⟩ := hcel
        simp [World.shape?, h]
      have hrun : (convert T1 T1 (.slice (some ad) len cap)).run P w = .ok (.slice (some ad) len cap) (w.freeze ⟨ρ nm, c.size, none⟩ 1) := by
        simp [convert, run_underlying (h1.uslice hk1), run_underlying ((hTT _ _ he).uint hk), markStringish, hab, hsh]
      have hRw : ∀ n, Rw w (ρ nm) n → Rw (w.freeze ⟨ρ nm, c.size, none⟩ 1) (ρ nm) n := by
        rintro n ⟨c1, T1, fr1, e1, e2⟩
        obtain ⟨fr, h, _⟩ := hcel
        rw [h] at e1; cases e1
        rw [← e2]; exact f1.rw
      obtain ⟨q1, q2⟩ := hg.mem.write (e' := e') (w' := w.freeze ⟨ρ nm, c.size, none⟩ 1) (x' := z) hze (fun n => by split <;> simp_all) f2 f3 rfl rfl rfl hRw (fun hevo => by
        cases hent with
        | obj hr hb =>
          obtain ⟨rfl, rfl⟩ := hcel.inj hb
          exact .obj (hr.mono hevo D (fun n hn => ⟨hn, rfl⟩)) f1
        | vec hr hb hc =>
          obtain ⟨rfl, rfl⟩ := hcel.inj hb
          exact .vec (hr.mono hevo (fun n hn => ⟨hn, rfl⟩)) f1 hc)
      refine .value (x := .slice (some ad) len cap) (w' := w.freeze ⟨ρ nm, c.size, none⟩ 1) ?_ ⟨ρ, D, fun n h => .inl h, ?_, q1, q2⟩
      · have hu' : a.eval x = .slice (some ad) len cap := hu
        simp only [execOp, hu', Sem.run_bind, hrun, Result.andThen_ok, Sem.run_pure]
      · exact .one (cs := [_]) (.sl hn ha hl hm (hRw _ hb) hc)
    · exact h.none.elim
  · exact s2b_sound hTT h1 h2 hx h
end
end Sx
