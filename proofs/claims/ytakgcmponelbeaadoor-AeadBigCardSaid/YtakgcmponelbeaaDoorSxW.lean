/- Calls, once more; tools for walks. -/
import Derived.Test.YtakgcmponelbeaaDoorSxQ
set_option linter.unusedVariables false
set_option linter.unusedSimpArgs false
namespace Sx
open Go

mutual
theorem AV.sub_refl : ∀ a : AV, AV.sub a a
  | .agg l => AV.subL_refl l
  | .int _ _ | .bool _ | .str _ | .ints _ _ _ | .tup _ | .ptr _ _ _ _ | .pel _ | .sl _ _ _ _ | .nils | .nilp | .nilf | .nili | .nilm | .lstI _ _ | .lstS _ | .lst _ _ | .fn _ _ | .ifc _ _ | .mp _ => by simp [AV.sub]
theorem AV.subL_refl : ∀ l : List AV, AV.subL l l
  | [] => trivial
  | a :: l => ⟨AV.sub_refl a, AV.subL_refl l⟩
end
section
variable {P : Program} {G : Nat → Option AV} {e : Ents} {nb : Nat} {f : FuncId} {as cap : List AV} {K : AV → Del → Prop}

/-- A call that is handed values alone, and gives a value back. -/
theorem CallK.pure (args : List AV) (r : AV) (hF : FnR P G f args [] r []) (hc : Callable P f) (h : isTupL (as ++ cap) = false ∧ onQ (vw.vwL e [] (as ++ cap)) (fun p => AV.subL p.1 args ∧ (p.2 = true → r.free = true))) (hk : K r []) :
    CallK P G e nb f as cap K := by
  obtain ⟨h1, h2⟩ := h
  obtain ⟨⟨args', F⟩, h3, h4, h5⟩ := onQ_spec h2
  exact .fn [] [] args' args F r h3 h4 hF hc h1 (fun _ _ h => by cases h) (fun n h => by cases h) trivial (fun hq => ⟨h5 hq, rfl⟩) hk
/-- A call that is handed entries: they come back as told. -/
theorem CallK.with (h h' : Ents) (args : List AV) (r : AV) (hF : FnR P G f args h r h') (hc : Callable P f) (hv : isTupL (as ++ cap) = false ∧ onQ (vw.vwL e h (as ++ cap)) (fun p => AV.subL p.1 args ∧ (p.2 = true → r.free = true ∧ entsFree h' = true)))
    (hle : leL h e) (hn : ∀ n, Nm h' n → Nm h n ∨ (nb ≤ n ∧ n < nb + 16)) (hi : entsIn (Nm h) h) (hk : K r (callDel h h')) : CallK P G e nb f as cap K := by
  obtain ⟨h1, h2⟩ := hv
  obtain ⟨⟨args', F⟩, h3, h4, h5⟩ := onQ_spec h2
  exact .fn h h' args' args F r h3 h4 hF hc h1 (leL_le hle) hn hi h5 hk
end

/-- Arms that come to one state. -/
theorem W.joinK {P : Program} {G : Nat → Option AV} {h : Ents} {x y : Code} {st : St} {Q : Exit → St → Prop} (st' : St) (hx : ∀ K : St → Prop, (∀ s, wk h s st' → K s) → W P G h x st (thn K Q)) (hy : W P G h y st' Q) : W P G h (.seq x y) st Q :=
  W.seqK fun K hK => hx K fun s hs => hK s (W.weak st' hs hy)
/-- What a body has to come to. -/
def finB (tt : Nat → Option TI) (rs : List ResultVar) (r : AV) (h' : Ents) (st : St) : Prop :=
  onQ (resQ tt st.e st.t rs) (fun vs => resV vs = r) ∧ leL h' st.e ∧ r.nmIn (Nm h') ∧ entsIn (Nm h') h'
def fin (tt : Nat → Option TI) (rs : List ResultVar) (r : AV) (h' : Ents) : Exit → St → Prop
  | .normal, st => finB tt rs r h' st
  | .ret, st => finB tt rs r h' st
  | _, _ => False
theorem fin_ret {tt : Nat → Option TI} {rs : List ResultVar} {r : AV} {h' : Ents} {st : St} : fin tt rs r h' .ret st = finB tt rs r h' st := rfl
theorem fin_normal {tt : Nat → Option TI} {rs : List ResultVar} {r : AV} {h' : Ents} {st : St} : fin tt rs r h' .normal st = finB tt rs r h' st := rfl
theorem FnR.of_walk {P : Program} {tt : Nat → Option TI} {G : Nat → Option AV} (hTT : TT P tt) {f : FuncId} {fn : Func} {c : Code} {args : List AV} {h h' : Ents} {r : AV} {n0 m : Nat} (hf : P.funcs[f]? = some fn) (hb : fn.body = some c)
    (hm : fn.ntmps = m) (hargs : args.length ≤ m) (hn0 : nmH n0 h) (hW : W P G h c ⟨parT 0 args, h, n0, m⟩ (fin tt fn.results.toList r h')) : FnR P G f args h r h' := by
  refine FnR.of_body hTT hf hb hm hargs (nmH_get hn0) (hW.mono ?_)
  have key : ∀ st, finB tt fn.results.toList r h' st → ∃ vs, Ok (resQ tt st.e st.t fn.results.toList) vs ∧ resV vs = r ∧ Le h' st.e ∧ r.nmIn (Nm h') ∧ entsIn (Nm h') h' := by
    rintro st ⟨h1, h2, h3, h4⟩
    obtain ⟨vs, h5, h6⟩ := onQ_spec h1
    exact ⟨vs, h5, h6, leL_le h2, h3, h4⟩
  rintro x st hx
  cases x with
  | normal => exact ⟨.inl rfl, key st hx⟩
  | ret => exact ⟨.inr rfl, key st hx⟩
  | _ => exact hx.elim

/-- A body whose result is told by value: what it owns at its end is new. -/
def finVB (tt : Nat → Option TI) (rs : List ResultVar) (r : AV) (st : St) : Prop :=
  onQ (resQ tt st.e st.t rs) (fun vs => (resV vs).isTup = false ∧ onQ (vw st.e [] (resV vs)) fun p => p.1 = r)
def finV (tt : Nat → Option TI) (rs : List ResultVar) (r : AV) : Exit → St → Prop
  | .normal, st => finVB tt rs r st
  | .ret, st => finVB tt rs r st
  | _, _ => False
theorem finV_ret {tt : Nat → Option TI} {rs : List ResultVar} {r : AV} {st : St} : finV tt rs r .ret st = finVB tt rs r st := rfl
theorem finV_normal {tt : Nat → Option TI} {rs : List ResultVar} {r : AV} {st : St} : finV tt rs r .normal st = finVB tt rs r st := rfl
theorem FnR.of_walkV {P : Program} {tt : Nat → Option TI} {G : Nat → Option AV} (hTT : TT P tt) {f : FuncId} {fn : Func} {c : Code} {args : List AV} {r : AV} {m : Nat} (hf : P.funcs[f]? = some fn) (hb : fn.body = some c)
    (hm : fn.ntmps = m) (hargs : args.length ≤ m) (hW : W P G [] c ⟨parT 0 args, [], 0, m⟩ (finV tt fn.results.toList r)) : FnR P G f args [] r [] := by
  intro B ρ w vs hbig hmem hgl hlen ha
  subst hm
  refine calls_of_wp hf hb (wp_mono (hW ⟨B, ρ, w⟩ _ w ?_) ?_)
  · refine ⟨ρ, Nm [], ⟨hmem, fun i x hi => ?_, hbig, hgl⟩, ⟨rfl, ?_⟩, fun n h => (by cases h), Evol.refl w⟩
    · obtain ⟨_, h2⟩ := lk_parT args 0 i x hi
      obtain ⟨v, h3, h4⟩ := ha i x (by simpa using h2)
      have hlt := (List.getElem?_eq_some_iff.1 h3).1
      exact ⟨v, by simp only [Array.getElem?_append, List.size_toArray]; rw [if_pos hlt]; simpa using h3, h4⟩
    · simp; omega
  · rintro x a' w' ⟨st, hx, hat⟩
    obtain ⟨ρ', D', hg, hd, hD, hev⟩ := hat
    have key : finVB tt fn.results.toList r st → ∃ u, (results fn a'.tmps).run P w' = .ok u w' ∧ ∃ x ρ', Ending.returned u = .returned x ∧ RV ρ' (Stab B ρ' [] w') w' (Nm []) r x ∧ Mem B ρ' (Nm []) [] w' ∧ Kept B ρ [] w ρ' [] w' := by
      intro hv
      obtain ⟨us, h1, h2, h3⟩ := onQ_spec hv
      obtain ⟨⟨r', f'⟩, h4, h5⟩ := onQ_spec h3
      simp only at h5
      subst h5
      obtain ⟨u, h6, h7⟩ := results_run (P := P) hTT hg h1
      obtain ⟨cs, hu, hr⟩ := h7.inv (fun l hl => by rw [hl] at h2; cases h2)
      have hS : ∀ b, Stab B ρ' st.e w' b → Stab B ρ' [] w' b := fun b hb => ⟨hb.1, hb.2.1, fun m x hm => (by cases hm)⟩
      obtain ⟨k1, k2⟩ := vw_sound (S' := Stab B ρ' [] w') (F := true) hS (fun nm x hx => (hg.mem.en nm x hx).2) (fun _ nm x hx _ => by
        refine ⟨hbig _ ?_, hg.mem.block_lt hx, fun m x hm => (by cases hm)⟩
        rcases hev.fresh nm x hx with ⟨m0, x0, h0, _⟩ | h
        · cases h0
        · exact h) _ cs r' f' hr h4 (fun _ => rfl)
      refine ⟨u, h6, u, ρ', rfl, ?_, ⟨fun m x hm => by (cases hm), fun m m' x x' hm => by (cases hm)⟩,
        ⟨fun b hb => ⟨hS b (hev.evo.stable b hb).1, (hev.evo.stable b hb).2⟩, hev.evo.sized⟩, fun n h1 _ => (hev.agree n h1).2, fun m x hm => by (cases hm), hev.size, hev.os, hev.out, hev.tape, hev.others⟩
      have : u = shape r' cs := by rw [hu]; simp only [shape, k2]
      rw [this]
      exact .one k1
    cases x with
    | normal => obtain ⟨u, h1, h2⟩ := key hx; exact ⟨hd.1, u, h1, h2⟩
    | ret => obtain ⟨u, h1, h2⟩ := key hx; exact ⟨hd.1, u, h1, h2⟩
    | _ => exact hx.elim
end Sx
