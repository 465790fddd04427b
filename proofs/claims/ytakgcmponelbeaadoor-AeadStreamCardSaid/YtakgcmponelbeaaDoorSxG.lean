/- A call by contract runs. -/
import Derived.Test.YtakgcmponelbeaaDoorSxF
set_option linter.unusedVariables false
set_option linter.unusedSimpArgs false
namespace Sx
open Go

def Callable (P : Program) (f : FuncId) : Prop := ∃ fn, P.funcs[f]? = some fn ∧ (fn.name == "runtime.NumGoroutine") = false ∧ fn.body.isNone = false

theorem Callable.run {P : Program} {f : FuncId} (h : Callable P f) (vs : Array Value) (w : World) : (callFunc f vs).run P w = .ok (.enter f vs) w := by
  obtain ⟨fn, h1, h2, h3⟩ := h
  have h4 : fn.name ≠ "runtime.NumGoroutine" := fun q => by rw [q] at h2; simp at h2
  have h5 : fn.body ≠ none := fun q => by rw [q] at h3; simp at h3
  simp [callFunc, h1, h4, h5]

def evL (G : Nat → Option AV) (t : Tms) : List Operand → Option (List AV)
  | [] => some []
  | x :: l => (ev G t x).bind fun a => (evL G t l).map (a :: ·)

def isTupL : List AV → Bool
  | [] => false
  | a :: l => a.isTup || isTupL l

theorem evL_sound {B : Nat → Prop} {G : Nat → Option AV} {ρ : Nat → Nat} {D : Nat → Prop} {t t' : Tms} {e : Ents} {a : Act} {w : World} (hg : Good B G ρ D t' e a w) (hl : Le t t') : ∀ {xs : List Operand} {as : List AV}, evL G t xs = some as → isTupL as = false →
    ∃ cs : List (List Value), cs.length = as.length ∧ (xs.map a.eval) = (as.zip cs).map (fun p => shape p.1 p.2) ∧ ∀ (i : Nat) x, as[i]? = some x → ∃ c, cs[i]? = some c ∧ RC ρ (Stab B ρ e w) w D x c
  | [], as, h, _ => by cases h; exact ⟨[], rfl, rfl, fun i x hi => by simp at hi⟩
  | x :: xs, as, h, ht => by
    simp only [evL, Option.bind_eq_some_iff, Option.map_eq_some_iff] at h
    obtain ⟨y, hy, ys, hys, rfl⟩ := h
    simp only [isTupL, Bool.or_eq_false_iff] at ht
    obtain ⟨cs, h1, h2, h3⟩ := evL_sound hg hl hys ht.2
    obtain ⟨c, hc, hr⟩ := (ev_sound hg hl hy).inv (fun l hq => by subst hq; cases ht.1)
    refine ⟨c :: cs, by simp [h1], by simp [hc, h2], fun i z hi => ?_⟩
    cases i with
    | zero => simp at hi; subst hi; exact ⟨c, by simp, hr⟩
    | succ i => obtain ⟨d, h4, h5⟩ := h3 i z (by simpa using hi); exact ⟨d, by simpa using h4, h5⟩

theorem vwL_get {ρ : Nat → Nat} {S S' : Nat → Prop} {w : World} {N : Nat → Prop} {e h : Ents} {F : Bool} (hS : ∀ b, S b → S' b) (hE : ∀ nm x, lk e nm = some x → EntR ρ S w N (ρ nm) x) (hv : F = true → ∀ nm x, lk e nm = some x → lk h nm = none → S' (ρ nm)) :
    ∀ (l : List AV) (cs : List (List Value)) (l' : List AV) (f : Bool), cs.length = l.length → (∀ (i : Nat) x, l[i]? = some x → ∃ c, cs[i]? = some c ∧ RC ρ S w N x c) → Ok (vw.vwL e h l) (l', f) → (f = true → F = true) →
      l'.length = l.length ∧ (l.zip cs).map (fun p => shape p.1 p.2) = (l'.zip cs).map (fun p => shape p.1 p.2) ∧ ∀ (i : Nat) x, l'[i]? = some x → ∃ c, cs[i]? = some c ∧ RC ρ S' w (Nm h) x c
  | [], cs, l', f, hl, hr, hk, hf => by
    simp only [vw.vwL] at hk
    cases hk.ret
    exact ⟨rfl, rfl, fun i x hi => by simp at hi⟩
  | a :: l, [], l', f, hl, hr, hk, hf => by simp at hl
  | a :: l, c :: cs, l', f, hl, hr, hk, hf => by
    simp only [vw.vwL] at hk
    obtain ⟨⟨a1, f1⟩, h1, hk⟩ := hk.bnd
    obtain ⟨⟨l1, g1⟩, h2, hk⟩ := hk.bnd
    cases hk.ret
    obtain ⟨c0, hc0, r1⟩ := hr 0 a rfl
    simp at hc0; subst hc0
    obtain ⟨k1, k2⟩ := vw_sound hS hE hv a _ a1 f1 r1 h1 (fun q => hf (by simp [q]))
    obtain ⟨k3, k4, k5⟩ := vwL_get hS hE hv l cs l1 g1 (by simpa using hl) (fun i x hi => by simpa using hr (i + 1) x (by simpa using hi)) h2 (fun q => hf (by simp [q]))
    refine ⟨by simp [k3], ?_, fun i x hi => ?_⟩
    · simp only [List.zip_cons_cons, List.map_cons, k4]
      congr 1
      simp only [shape, k2]
    · cases i with
      | zero => simp at hi; subst hi; exact ⟨c, by simp, k1⟩
      | succ i => obtain ⟨d, h4, h5⟩ := k5 i x (by simpa using hi); exact ⟨d, by simpa using h4, h5⟩

def callDel (h h' : Ents) : Del := h.map (fun p => (p.1, none)) ++ (h'.reverse.map fun p => (p.1, some p.2))

theorem ap_append (d d' : Del) (e : Ents) : ap (d ++ d') e = ap d' (ap d e) := by
  induction d generalizing e with
  | nil => rfl
  | cons p d ih => obtain ⟨n, x⟩ := p; simp only [List.cons_append, ap]; exact ih _
theorem lk_ap_none (h : Ents) : ∀ (e : Ents) (m : Nat), lk (ap (h.map fun p => (p.1, none)) e) m = if (lk h m).isSome then none else lk e m := by
  induction h with
  | nil => intro e m; simp [ap, lk]
  | cons p h ih =>
    obtain ⟨n, x⟩ := p
    intro e m
    simp only [List.map_cons, ap, ih, lk_up, lk]
    by_cases hq : n = m
    · simp [hq]
    · simp [hq]
theorem lk_ap_some (h : Ents) : ∀ (e : Ents) (m : Nat), lk (ap (h.reverse.map fun p => (p.1, some p.2)) e) m = (lk h m).or (lk e m) := by
  induction h with
  | nil => intro e m; simp [ap, lk]
  | cons p h ih =>
    obtain ⟨n, x⟩ := p
    intro e m
    simp only [List.reverse_cons, List.map_append, List.map_cons, List.map_nil, ap_append, ap, lk_up, ih, lk]
    by_cases hq : n = m
    · simp [hq]
    · simp [hq]
theorem lk_callDel (h h' e : Ents) (m : Nat) : lk (ap (callDel h h') e) m = (lk h' m).or (if (lk h m).isSome then none else lk e m) := by
  rw [callDel, ap_append, lk_ap_some, lk_ap_none]

theorem zip_get {α β : Type} {l : List α} {m : List β} {i : Nat} {a : α} {b : β} (h1 : l[i]? = some a) (h2 : m[i]? = some b) : (l.zip m)[i]? = some (a, b) := by
  rw [List.getElem?_zip_eq_some]; exact ⟨h1, h2⟩
theorem isTupL_append (a b : List AV) : isTupL (a ++ b) = (isTupL a || isTupL b) := by
  induction a with
  | nil => rfl
  | cons x a ih => simp only [List.cons_append, isTupL, ih, Bool.or_assoc]
theorem zip_range (cap : List AV) (us : Nat → List Value) : (cap.zipIdx.map fun (x, i) => shape x (us i)) = (cap.zip ((List.range cap.length).map us)).map fun p => shape p.1 p.2 := by
  apply List.ext_getElem?
  intro i
  simp only [List.getElem?_map, List.getElem?_zipIdx, Nat.zero_add]
  cases hi : cap[i]? with
  | none =>
    rw [List.getElem?_eq_none (by simp; have := List.getElem?_eq_none_iff.1 hi; omega)]
    rfl
  | some x =>
    have hlt := (List.getElem?_eq_some_iff.1 hi).1
    rw [zip_get hi (by rw [List.getElem?_map, List.getElem?_range hlt]; rfl)]
    rfl

/-- The operation is a call of f with these arguments. -/
theorem sound_call {P : Program} {G : Nat → Option AV} {t : Tms} {e : Ents} {nb : Nat} {dst : Option Tmp} {ty : TypeId} {pos : String} {after : Array Edge} {gd : Option (Nat × Bool)}
    {x : Operand} {xs : Array Operand} {ts : Array TypeId} {f : FuncId} {cap as args' : List AV} {h h' : Ents} {r : AV} {F : Bool}
    (hx : ev G t x = some (.fn (.func f) cap)) (has : evL G t xs.toList = some as) (ht : isTupL (as ++ cap) = false) (hF : FnR P G f args' h r h') (hle : Le h e) (hcal : Callable P f)
    (hvw : Ok (vw.vwL e h (as ++ cap)) (args', F)) (hnew : ∀ n, Nm h' n → Nm h n ∨ (nb ≤ n ∧ n < nb + 16)) (hin : entsIn (Nm h) h) (hfree : F = true → r.free = true ∧ entsFree h' = true) :
    OpSound P G t e nb ⟨dst, .call { callee := .value x, args := xs, argTypes := ts }, ty, pos, after, gd⟩ r (callDel h h') := by
  intro B ρ D t' e' a w htt hee hg hD
  rw [isTupL_append, Bool.or_eq_false_iff] at ht
  obtain ⟨cs1, hl1, hv1, hr1⟩ := evL_sound hg htt has ht.1
  obtain ⟨cf, hcf, hrf⟩ := (ev_sound hg htt hx).inv (by simp)
  cases hrf with
  | fn us hus =>
    have hrun : (execOp a.eval ⟨dst, .call { callee := .value x, args := xs, argTypes := ts }, ty, pos, after, gd⟩).run P w =
        .ok (.enter f (((as ++ cap).zip (cs1 ++ (List.range cap.length).map us)).map fun p => shape p.1 p.2).toArray) w := by
      have e1 : xs.map a.eval = ((as.zip cs1).map fun p => shape p.1 p.2).toArray := by rw [← hv1, ← List.map_toArray, Array.toArray_toList]
      have e2 : (cap.zipIdx.map fun (x, i) => shape x (us i)) = (cap.zip ((List.range cap.length).map us)).map fun p => shape p.1 p.2 := zip_range cap us
      have e3 : ((as ++ cap).zip (cs1 ++ (List.range cap.length).map us)) = as.zip cs1 ++ cap.zip ((List.range cap.length).map us) := List.zip_append hl1.symm
      rw [e3, List.map_append, ← e2]
      have hcf' : a.eval x = Value.func (.func f) #[] (cap.zipIdx.map fun (x, i) => shape x (us i)).toArray := hcf
      simp only [execOp, resolve, hcf', Deferred.ofValue, Sem.run_bind, Sem.run_pure, Result.andThen_ok, invoke, hcal.run, e1]
      simp
    let B' : Nat → Prop := fun b => F = true ∨ Stab B ρ e' w b ∨ w.heap.size ≤ b
    have hhe : Le h e' := fun i x hi => hee _ _ (hle _ _ hi)
    have hS : ∀ b, Stab B ρ e' w b → Stab B' ρ h w b := fun b hb => ⟨.inr (.inl hb), hb.2.1, fun m x hm => hb.2.2 m x (hhe _ _ hm)⟩
    have hvF : F = true → ∀ nm x, lk e nm = some x → lk h nm = none → Stab B' ρ h w (ρ nm) := fun hF nm x hnm hno =>
      ⟨.inl hF, hg.mem.block_lt (hee _ _ hnm), fun m y hm hq => by
        have := hg.mem.inj _ _ _ _ (hhe _ _ hm) (hee _ _ hnm) hq
        subst this; rw [hno] at hm; cases hm⟩
    have hlow : ∀ {S' : Nat → Prop}, (∀ b, Stab B ρ e' w b → S' b) → Evo (Stab B ρ e' w) S' w w := fun h => ⟨fun b hb => ⟨h b hb, rfl⟩, fun b n hb => hb⟩
    have hmem : Mem B' ρ (Nm h) h w := ⟨fun m x hm => ⟨by simp [Nm, hm], ((hg.mem.en m x (hhe _ _ hm)).2.restrict (entsIn_get hin m x hm)).mono (hlow hS) (fun n hn => ⟨hn, rfl⟩) rfl⟩,
      fun m m' x x' hm hm' hq => hg.mem.inj m m' x x' (hhe _ _ hm) (hhe _ _ hm') hq⟩
    have hrl : ∀ (i : Nat) x, (as ++ cap)[i]? = some x → ∃ c, (cs1 ++ (List.range cap.length).map us)[i]? = some c ∧ RC ρ (Stab B ρ e' w) w D x c := by
      intro i y hi
      by_cases hlt : i < as.length
      · rw [List.getElem?_append_left hlt] at hi
        obtain ⟨c, h1, h2⟩ := hr1 i y hi
        exact ⟨c, by rw [List.getElem?_append_left (by omega)]; exact h1, h2⟩
      · rw [List.getElem?_append_right (by omega)] at hi
        refine ⟨us (i - as.length), ?_, hus _ _ hi⟩
        rw [List.getElem?_append_right (by omega), hl1, List.getElem?_map, List.getElem?_range (List.getElem?_eq_some_iff.1 hi).1]
        rfl
    obtain ⟨g1, g2, g3⟩ := vwL_get (F := F) hS (fun nm x hnm => (hg.mem.en nm x (hee _ _ hnm)).2) hvF (as ++ cap) (cs1 ++ (List.range cap.length).map us) args' F (by simp [hl1]) hrl hvw id
    refine .enter hrun ?_
    rw [g2]
    refine (hF B' ρ w _ (fun b hb => .inr (.inr hb)) hmem (fun g x hgx => (hg.gl g x hgx).mono (hlow hS) NoNm (fun _ h => h.elim)) (by simp [g1, hl1]) (fun i y hi => ?_)).mono ?_
    · obtain ⟨c, h1, h2⟩ := g3 i y hi
      exact ⟨shape y c, by rw [List.getElem?_map, zip_get hi h1]; rfl, .one h2⟩
    · rintro e1 w' ⟨y, ρ1, rfl, hrv, hmm, hk⟩
      refine ⟨y, rfl, ?_⟩
      let ρ2 : Nat → Nat := fun n => if nb ≤ n ∧ n < nb + 16 then ρ1 n else ρ n
      have key2 : ∀ n, D n → ρ2 n = ρ n := fun n hn => if_neg (fun q => hD n q.1 q.2 hn)
      have hDh : ∀ n, Nm h n → D n := fun n hn => by
        obtain ⟨x, hx⟩ := Option.isSome_iff_exists.1 hn
        exact (hg.mem.en n x (hhe _ _ hx)).1
      have key1 : ∀ n, Nm h' n → ρ2 n = ρ1 n := fun n hn => by
        by_cases hq : nb ≤ n ∧ n < nb + 16
        · exact if_pos hq
        · rcases hnew n hn with h1 | h1
          · exact (if_neg hq).trans (hk.agree n h1 hn).symm
          · exact absurd h1 hq
      have hlk : ∀ m x, lk (ap (callDel h h') e') m = some x → lk h' m = some x ∨ (lk h' m = none ∧ lk h m = none ∧ lk e' m = some x) := by
        intro m x hm
        rw [lk_callDel] at hm
        cases h1 : lk h' m with
        | some y => rw [h1] at hm; left; simpa using hm
        | none =>
          rw [h1] at hm
          cases h2 : lk h m with
          | some y => rw [h2] at hm; simp at hm
          | none => rw [h2] at hm; right; exact ⟨rfl, rfl, by simpa using hm⟩
      have hkeepb : ∀ m x, lk h m = none → lk e' m = some x → w'.heap[ρ m]? = w.heap[ρ m]? := fun m x h1 h2 =>
        hk.others _ (hg.mem.block_lt h2) (fun n y hn hq => by
          have := hg.mem.inj _ _ _ _ (hhe _ _ hn) h2 hq
          subst this; rw [h1] at hn; cases hn)
      have hst : ∀ b, Stab B ρ e' w b → Stab B ρ2 (ap (callDel h h') e') w' b := by
        intro b hb
        have h1 := hk.evo.stable b (hS b hb)
        refine ⟨hb.1, h1.1.2.1, fun m x hm => ?_⟩
        rcases hlk m x hm with h2 | ⟨_, h3, h4⟩
        · rw [key1 m (by simp [Nm, h2])]; exact h1.1.2.2 m x h2
        · rw [key2 m (hg.mem.en m x h4).1]; exact hb.2.2 m x h4
      have hst2 : F = false → ∀ b, Stab B' ρ1 h' w' b → Stab B ρ2 (ap (callDel h h') e') w' b := by
        intro hFf b hb
        rcases hb.1 with h1 | h1 | h1
        · rw [hFf] at h1; cases h1
        · exact hst b h1
        · refine ⟨hg.big b h1, hb.2.1, fun m x hm => ?_⟩
          rcases hlk m x hm with h2 | ⟨_, h3, h4⟩
          · rw [key1 m (by simp [Nm, h2])]; exact hb.2.2 m x h2
          · rw [key2 m (hg.mem.en m x h4).1]
            have := hg.mem.block_lt h4
            omega
      have hevo : Evo (Stab B ρ e' w) (Stab B ρ2 (ap (callDel h h') e') w') w w' := ⟨fun b hb => ⟨hst b hb, (hk.evo.stable b (hS b hb)).2⟩, hk.evo.sized⟩
      have hag : ∀ n, D n → (D n ∨ Nm h' n) ∧ ρ2 n = ρ n := fun n hn => ⟨.inl hn, key2 n hn⟩
      have hag1 : ∀ n, Nm h' n → (D n ∨ Nm h' n) ∧ ρ2 n = ρ1 n := fun n hn => ⟨.inr hn, key1 n hn⟩
      have hlow2 : F = false → Evo (Stab B' ρ1 h' w') (Stab B ρ2 (ap (callDel h h') e') w') w' w' := fun q => ⟨fun b hb => ⟨hst2 q b hb, rfl⟩, fun b n hb => hb⟩
      have hself : ∀ S : Nat → Prop, Evo S S w' w' := fun S => Evo.refl w'
      refine ⟨ρ2, fun n => D n ∨ Nm h' n, fun n hn => ?_, ?_, ⟨fun m x hm => ?_, fun m m' x x' hm hm' hq => ?_⟩, hevo, hag, fun m x hm => ?_, hk.size, hk.os, hk.out, hk.tape, fun b hb hn => ?_⟩
      · rcases hn with h1 | h1
        · exact .inl h1
        · rcases hnew n h1 with h2 | h2
          · exact .inl (hDh n h2)
          · exact .inr h2
      · cases hF' : F with
        | true => exact (hrv.freed (hfree hF').1 (S' := Stab B ρ2 (ap (callDel h h') e') w')).mono (hself _) hag1
        | false => exact hrv.mono (hlow2 hF') hag1
      · rcases hlk m x hm with h2 | ⟨_, h3, h4⟩
        · refine ⟨.inr (by simp [Nm, h2]), ?_⟩
          rw [key1 m (by simp [Nm, h2])]
          have h5 := (hmm.en m x h2).2
          cases hF' : F with
          | true => exact (h5.freed (entsFree_get (hfree hF').2 m x h2) (S' := Stab B ρ2 (ap (callDel h h') e') w')).mono (hself _) hag1 rfl
          | false => exact h5.mono (hlow2 hF') hag1 rfl
        · have h5 := hg.mem.en m x h4
          refine ⟨.inl h5.1, ?_⟩
          rw [key2 m h5.1]
          exact h5.2.mono hevo hag (hkeepb m x h3 h4)
      · rcases hlk m x hm with h2 | ⟨_, h3, h4⟩ <;> rcases hlk m' x' hm' with h2' | ⟨_, h3', h4'⟩
        · rw [key1 m (by simp [Nm, h2]), key1 m' (by simp [Nm, h2'])] at hq
          exact hmm.inj m m' x x' h2 h2' hq
        · rw [key1 m (by simp [Nm, h2]), key2 m' (hg.mem.en m' x' h4').1] at hq
          have hlt := hg.mem.block_lt h4'
          rcases hk.fresh m x h2 with ⟨m0, x0, k0, ke⟩ | kf
          · have := hg.mem.inj _ _ _ _ (hhe _ _ k0) h4' (ke.symm.trans hq)
            subst this; rw [h3'] at k0; cases k0
          · omega
        · rw [key2 m (hg.mem.en m x h4).1, key1 m' (by simp [Nm, h2'])] at hq
          have hlt := hg.mem.block_lt h4
          rcases hk.fresh m' x' h2' with ⟨m0, x0, k0, ke⟩ | kf
          · have := hg.mem.inj _ _ _ _ (hhe _ _ k0) h4 (ke.symm.trans hq.symm)
            subst this; rw [h3] at k0; cases k0
          · omega
        · rw [key2 m (hg.mem.en m x h4).1, key2 m' (hg.mem.en m' x' h4').1] at hq
          exact hg.mem.inj m m' x x' h4 h4' hq
      · rcases hlk m x hm with h2 | ⟨_, h3, h4⟩
        · rw [key1 m (by simp [Nm, h2])]
          rcases hk.fresh m x h2 with ⟨m0, x0, k0, ke⟩ | kf
          · exact .inl ⟨m0, x0, hhe _ _ k0, ke⟩
          · exact .inr kf
        · rw [key2 m (hg.mem.en m x h4).1]
          exact .inl ⟨m, x, h4, rfl⟩
      · exact hk.others b hb (fun m x hm => hn m x (hhe _ _ hm))

end Sx
