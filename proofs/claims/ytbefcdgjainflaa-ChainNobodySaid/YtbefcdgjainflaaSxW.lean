/- Calls, once more; tools for walks. -/
import Derived.Test.YtbefcdgjainflaaSxK
import Derived.OpenShut
import Derived.Carry
import Derived.ProofKit
import Derived.RangeFuncIn
import Derived.RangeFuncSeq
import Derived.RangeFuncCalls
import Derived.RecoverIn
set_option linter.unusedVariables false
set_option linter.unusedSimpArgs false
namespace Sx
open Go

mutual
theorem AV.sub_refl : ∀ a : AV, AV.sub a a
  | .agg l => AV.subL_refl l
  | .int _ _ | .bool _ | .str _ | .ints _ _ _ | .tup _ | .ptr _ _ _ _ | .pel _ | .sl _ _ _ _ | .nils | .nilp | .nilf | .nili | .nilm | .lstI _ _ | .lstS _ | .lst _ _ | .fn _ _ | .ifc _ _ | .mp _ | .unk => by simp [AV.sub]
theorem AV.subL_refl : ∀ l : List AV, AV.subL l l
  | [] => trivial
  | a :: l => ⟨AV.sub_refl a, AV.subL_refl l⟩
end
section
variable {P : Program} {G : Nat → Option AV} {e : Ents} {nb : Nat} {f : FuncId} {as cap : List AV} {K : AV → Del → Prop}

/-- A call that is handed values alone, and gives a value back. -/
theorem CallK.pure (args : List AV) (r : AV) (hF : FnR P G f args [] r []) (hc : Callable P f) (h : isTupL (as ++ cap) = false ∧ onQ (vw.vwL e [] (as ++ cap)) (fun p => AV.subL p.1 args ∧ (p.2 = true → r.free = true))) (hk : K r []) :
    CallK P G e nb f as cap K := by
  obtain ⟨h1, h2⟩ := h
  obtain ⟨⟨args', F⟩, h3, h4, h5⟩ := onQ_spec h2
  exact .fn [] [] args' args F r h3 h4 hF hc h1 (fun _ _ h => by cases h) (fun n h => by cases h) trivial (fun hq => ⟨h5 hq, rfl⟩) hk
/-- A call that is handed entries: they come back as told. -/
theorem CallK.with (h h' : Ents) (args : List AV) (r : AV) (hF : FnR P G f args h r h') (hc : Callable P f) (hv : isTupL (as ++ cap) = false ∧ onQ (vw.vwL e h (as ++ cap)) (fun p => AV.subL p.1 args ∧ (p.2 = true → r.free = true ∧ entsFree h' = true)))
    (hle : leL h e) (hn : ∀ n, Nm h' n → Nm h n ∨ (nb ≤ n ∧ n < nb + 16)) (hi : entsIn (Nm h) h) (hk : K r (callDel h h')) : CallK P G e nb f as cap K := by
  obtain ⟨h1, h2⟩ := hv
  obtain ⟨⟨args', F⟩, h3, h4, h5⟩ := onQ_spec h2
  exact .fn h h' args' args F r h3 h4 hF hc h1 (leL_le hle) hn hi h5 hk
/-- A call that gives back what it was lent as it was. -/
theorem CallK.keep (h : Ents) (args : List AV) (r : AV) (hF : FnR P G f args h r h) (hc : Callable P f) (hv : isTupL (as ++ cap) = false ∧ onQ (vw.vwL e h (as ++ cap)) (fun p => AV.subL p.1 args ∧ (p.2 = true → r.free = true ∧ entsFree h = true)))
    (hle : leL h e) (hi : entsIn (Nm h) h) (hk : K r []) : CallK P G e nb f as cap K := by
  obtain ⟨h1, h2⟩ := hv
  obtain ⟨⟨args', F⟩, h3, h4, h5⟩ := onQ_spec h2
  exact .same h args' args F r h3 h4 hF hc h1 (leL_le hle) hi h5 hk
end

/-- Arms that come to one state. -/
theorem W.joinK {ro : Option Nat} {P : Program} {G : Nat → Option AV} {h : Ents} {x y : Code} {st : St} {Q : Exit → St → Prop} (st' : St) (hx : ∀ K : St → Prop, (∀ s, wk h s st' → K s) → W ro P G h x st (thn K Q)) (hy : W ro P G h y st' Q) : W ro P G h (.seq x y) st Q :=
  W.seqK fun K hK => hx K fun s hs => hK s (W.weak st' hs hy)
/-- What a body has to come to. -/
def finB (tt : Nat → Option TI) (rs : List ResultVar) (r : AV) (h' : Ents) (st : St) : Prop :=
  onQ (resQ tt st.e st.t rs) (fun vs => resV vs = r) ∧ leL h' st.e ∧ r.nmIn (Nm h') ∧ entsIn (Nm h') h'
def fin (tt : Nat → Option TI) (rs : List ResultVar) (r : AV) (h' : Ents) : Exit → St → Prop
  | .normal, st => finB tt rs r h' st
  | .ret, st => finB tt rs r h' st
  | _, _ => False
theorem fin_ret {tt : Nat → Option TI} {rs : List ResultVar} {r : AV} {h' : Ents} {st : St} : fin tt rs r h' .ret st = finB tt rs r h' st := rfl
theorem fin_normal {tt : Nat → Option TI} {rs : List ResultVar} {r : AV} {h' : Ents} {st : St} : fin tt rs r h' .normal st = finB tt rs r h' st := rfl
theorem FnR.of_walk {P : Program} {tt : Nat → Option TI} {G : Nat → Option AV} (hTT : TT P tt) {f : FuncId} {fn : Func} {c : Code} {args : List AV} {h h' : Ents} {r : AV} {n0 m : Nat} (hf : P.funcs[f]? = some fn) (hb : fn.body = some c)
    (hm : fn.ntmps = m) (hargs : args.length ≤ m) (hn0 : nmH n0 h) (hW : W none P G h c ⟨parT 0 args, h, n0, m⟩ (fin tt fn.results.toList r h')) : FnR P G f args h r h' := by
  refine FnR.of_body hTT hf hb hm hargs (nmH_get hn0) (hW.mono ?_)
  have key : ∀ st, finB tt fn.results.toList r h' st → ∃ vs, Ok (resQ tt st.e st.t fn.results.toList) vs ∧ resV vs = r ∧ Le h' st.e ∧ r.nmIn (Nm h') ∧ entsIn (Nm h') h' := by
    rintro st ⟨h1, h2, h3, h4⟩
    obtain ⟨vs, h5, h6⟩ := onQ_spec h1
    exact ⟨vs, h5, h6, leL_le h2, h3, h4⟩
  rintro x st hx
  cases x with
  | normal => exact ⟨.inl rfl, key st hx⟩
  | ret => exact ⟨.inr rfl, key st hx⟩
  | _ => exact hx.elim

/-- A body whose result is told by value: what it owns at its end is new. -/
def finVB (tt : Nat → Option TI) (rs : List ResultVar) (r : AV) (st : St) : Prop :=
  onQ (resQ tt st.e st.t rs) (fun vs => (resV vs).isTup = false ∧ onQ (vw st.e [] (resV vs)) fun p => p.1 = r)
def finV (tt : Nat → Option TI) (rs : List ResultVar) (r : AV) : Exit → St → Prop
  | .normal, st => finVB tt rs r st
  | .ret, st => finVB tt rs r st
  | _, _ => False
theorem finV_ret {tt : Nat → Option TI} {rs : List ResultVar} {r : AV} {st : St} : finV tt rs r .ret st = finVB tt rs r st := rfl
theorem finV_normal {tt : Nat → Option TI} {rs : List ResultVar} {r : AV} {st : St} : finV tt rs r .normal st = finVB tt rs r st := rfl
theorem FnR.of_walkV {P : Program} {tt : Nat → Option TI} {G : Nat → Option AV} (hTT : TT P tt) {f : FuncId} {fn : Func} {c : Code} {args : List AV} {r : AV} {m : Nat} (hf : P.funcs[f]? = some fn) (hb : fn.body = some c)
    (hm : fn.ntmps = m) (hargs : args.length ≤ m) (hW : W none P G [] c ⟨parT 0 args, [], 0, m⟩ (finV tt fn.results.toList r)) : FnR P G f args [] r [] := by
  intro B ρ w vs hbig hmem hgl hlen ha
  subst hm
  refine calls_of_marks hf hb (fun _ _ h => h) rfl (hW ⟨B, ρ, w, hbig, fun _ _ => False, []⟩ _ w ?_) (fun x st hx => by cases x <;> first | exact .inl rfl | exact .inr rfl | exact hx.elim) ?_
  · refine ⟨ρ, Nm [], ⟨hmem, fun i x hi => ?_, hbig, hgl⟩, ⟨Mk.nil rfl, ?_⟩, fun n h => (by cases h), Evol.refl w⟩
    · obtain ⟨_, h2⟩ := lk_parT args 0 i x hi
      obtain ⟨v, h3, h4⟩ := ha i x (by simpa using h2)
      have hlt := (List.getElem?_eq_some_iff.1 h3).1
      exact ⟨v, by simp only [Array.getElem?_append, List.size_toArray]; rw [if_pos hlt]; simpa using h3, h4⟩
    · simp; omega
  · rintro x st tmps' w' hx hat
    obtain ⟨ρ', D', hg, hd, hD, hev⟩ := hat
    have key : finVB tt fn.results.toList r st → ∃ u, (results fn tmps').run P w' = .ok u w' ∧ ∃ x ρ', Ending.returned u = .returned x ∧ RV ρ' (Stab B ρ' [] w') w' (Nm []) r x ∧ Mem B ρ' (Nm []) [] w' ∧ Kept B ρ [] w ρ' [] w' := by
      intro hv
      obtain ⟨us, h1, h2, h3⟩ := onQ_spec hv
      obtain ⟨⟨r', f'⟩, h4, h5⟩ := onQ_spec h3
      simp only at h5
      subst h5
      obtain ⟨u, h6, h7⟩ := results_run (P := P) hTT hg h1
      obtain ⟨cs, hu, hr⟩ := h7.inv (fun l hl => by rw [hl] at h2; cases h2)
      have hS : ∀ b, Stab B ρ' st.e w' b → Stab B ρ' [] w' b := fun b hb => ⟨hb.1, hb.2.1, fun m x hm => (by cases hm)⟩
      obtain ⟨k1, k2⟩ := vw_sound (S' := Stab B ρ' [] w') (F := true) hS (fun nm x hx => (hg.mem.en nm x hx).2) (fun _ nm x hx _ => by
        refine ⟨hbig _ ?_, hg.mem.block_lt hx, fun m x hm => (by cases hm)⟩
        rcases hev.fresh nm x hx with ⟨m0, x0, h0, _⟩ | h
        · cases h0
        · exact h) _ cs r' f' hr h4 (fun _ => rfl)
      refine ⟨u, h6, u, ρ', rfl, ?_, ⟨fun m x hm => by (cases hm), fun m m' x x' hm => by (cases hm)⟩,
        ⟨fun b hb => ⟨hS b (hev.evo.stable b hb).1, (hev.evo.stable b hb).2⟩, hev.evo.sized⟩, fun n h1 _ => (hev.agree n h1).2, fun m x hm => by (cases hm), hev.size, hev.os, hev.out, hev.tape, hev.others⟩
      have : u = shape r' cs := by rw [hu]; simp only [shape, k2]
      rw [this]
      exact .one k1
    cases x with
    | normal => exact key hx
    | ret => exact key hx
    | _ => exact hx.elim
end Sx

/- Two names exchanged. -/
set_option linter.unusedVariables false
set_option linter.unusedSimpArgs false
namespace Sx
open Go

def swp (a b n : Nat) : Nat := if n = a then b else if n = b then a else n
theorem swp_swp (a b n : Nat) : swp a b (swp a b n) = n := by
  unfold swp; repeat' split
  all_goals omega
def Row.map (τ : Nat → Nat) : Row → Row
  | .ints k xs => .ints k xs
  | .strs ss => .strs ss
  | .avs sz l => .avs sz (AV.mapL τ l)
def Ent.map (τ : Nat → Nat) : Ent → Ent
  | .obj T v => .obj T (v.map τ)
  | .vec T r => .vec T (r.map τ)
  | .mset s => .mset s
def tmMap (τ : Nat → Nat) : Tms → Tms
  | [] => []
  | (i, x) :: l => (i, x.map τ) :: tmMap τ l
def enMap (τ : Nat → Nat) : Ents → Ents
  | [] => []
  | (m, x) :: l => (τ m, x.map τ) :: enMap τ l
theorem lk_tmMap (τ : Nat → Nat) : ∀ (t : Tms) (i : Nat), lk (tmMap τ t) i = (lk t i).map (AV.map τ)
  | [], _ => rfl
  | (k, x) :: l, i => by simp only [tmMap, lk]; split <;> simp [lk_tmMap τ l i]
theorem lk_enMap (a b : Nat) : ∀ (e : Ents) (m : Nat), lk (enMap (swp a b) e) m = (lk e (swp a b m)).map (Ent.map (swp a b))
  | [], _ => rfl
  | (k, x) :: l, m => by
    simp only [enMap, lk]
    by_cases h : swp a b k = m
    · have : k = swp a b m := by rw [← h, swp_swp]
      rw [if_pos h, if_pos this]; rfl
    · have : ¬ k = swp a b m := fun q => h (by rw [q, swp_swp])
      rw [if_neg h, if_neg this, lk_enMap a b l m]

section
variable {ρ : Nat → Nat} {S : Nat → Prop} {w : World} {N : Nat → Prop} {a b : Nat}
theorem RC.swap {x : AV} {cs : List Value} (h : RC ρ S w N x cs) : RC (fun n => ρ (swp a b n)) S w (fun n => N (swp a b n)) (x.map (swp a b)) cs := by
  have h' : RC (fun n => (fun n => ρ (swp a b n)) (swp a b n)) S w N x cs := by
    have : (fun n => (fun n => ρ (swp a b n)) (swp a b n)) = ρ := by funext n; simp only [swp_swp]
    rw [this]; exact h
  exact RC.map (ρ := fun n => ρ (swp a b n)) (τ := swp a b) h' (fun n => N (swp a b n)) (fun n hn => by show N (swp a b (swp a b n)); rw [swp_swp]; exact hn)
theorem AV.map_isAgg (τ : Nat → Nat) (x : AV) : (x.map τ).isAgg = x.isAgg := by cases x <;> simp [AV.map, AV.isAgg]
theorem RV.swap {x : AV} {v : Value} (h : RV ρ S w N x v) : RV (fun n => ρ (swp a b n)) S w (fun n => N (swp a b n)) (x.map (swp a b)) v := by
  cases h with
  | one h =>
    rename_i cs
    have : shape x cs = shape (x.map (swp a b)) cs := by simp only [shape, AV.map_isAgg]
    rw [this]; exact .one h.swap
  | tup hl h =>
    rename_i l vs
    simp only [AV.map]
    rw [AV.mapL_eq]
    refine .tup (by simp [hl]) (fun i y hi => ?_)
    rw [List.getElem?_map, Option.map_eq_some_iff] at hi
    obtain ⟨z, hz, rfl⟩ := hi
    obtain ⟨cs, h1, h2⟩ := h i z hz
    exact ⟨cs, h1.swap, by simp only [shape, AV.map_isAgg] at h2 ⊢; exact h2⟩
theorem RowC.swap {r : Row} {cs : List Value} (h : RowC ρ S w N r cs) : RowC (fun n => ρ (swp a b n)) S w (fun n => N (swp a b n)) (r.map (swp a b)) cs := by
  induction h with
  | ints => exact .ints
  | strs => exact .strs
  | nil => simp only [Row.map, AV.mapL]; exact .nil
  | cons h1 hz _ ih => simp only [Row.map, AV.mapL] at *; exact .cons h1.swap hz ih
theorem EntR.swap {c : Nat} {x : Ent} (h : EntR ρ S w N c x) : EntR (fun n => ρ (swp a b n)) S w (fun n => N (swp a b n)) c (x.map (swp a b)) := by
  cases h with
  | obj h hb => exact .obj h.swap hb
  | vec h hb hc => exact .vec h.swap hb hc
  | mset hs hb => exact .mset hs hb
end

def St.swap (a b : Nat) (st : St) : St := ⟨tmMap (swp a b) st.t, enMap (swp a b) st.e, st.n, st.m⟩
theorem Stab.swap {B : Nat → Prop} {ρ : Nat → Nat} {e : Ents} {w : World} {a b : Nat} : Stab B (fun n => ρ (swp a b n)) (enMap (swp a b) e) w = Stab B ρ e w := by
  funext c
  apply propext
  constructor
  · rintro ⟨h1, h2, h3⟩
    exact ⟨h1, h2, fun m x hm => by
      have := h3 (swp a b m) (x.map (swp a b)) (by rw [lk_enMap, swp_swp, hm]; rfl)
      simpa only [swp_swp] using this⟩
  · rintro ⟨h1, h2, h3⟩
    refine ⟨h1, h2, fun m x hm => ?_⟩
    rw [lk_enMap, Option.map_eq_some_iff] at hm
    obtain ⟨y, hy, _⟩ := hm
    exact h3 _ y hy
theorem At.swap {G : Nat → Option AV} {h : Ents} {C : Ctx} {st : St} {act : Act} {w : World} {a b : Nat} (hna : ¬ Nm h a) (hnb : ¬ Nm h b) (ha : a < st.n) (hb : b < st.n) (hat : At G h C st act w) : At G h C (st.swap a b) act w := by
  obtain ⟨ρ, D, hg, hd, hD, hev⟩ := hat
  have hS : Stab C.B (fun n => ρ (swp a b n)) (enMap (swp a b) st.e) w = Stab C.B ρ st.e w := Stab.swap
  refine ⟨fun n => ρ (swp a b n), fun n => D (swp a b n), ⟨⟨fun m x hm => ?_, fun m m' x x' hm hm' hq => ?_⟩, fun i x hi => ?_, hg.big, fun g x hx => ?_⟩, ⟨hd.1.stab (fun c hc => by show Stab C.B _ (enMap (swp a b) st.e) w c; rw [hS]; exact hc), hd.2⟩, fun n hn => ?_, ⟨?_, fun n hn => ?_, fun m x hm => ?_, hev.size, hev.os, hev.out, hev.tape, hev.others⟩⟩
  · simp only [St.swap] at hm ⊢
    rw [hS]
    rw [lk_enMap, Option.map_eq_some_iff] at hm
    obtain ⟨y, hy, rfl⟩ := hm
    exact ⟨(hg.mem.en _ y hy).1, (hg.mem.en _ y hy).2.swap⟩
  · simp only [St.swap] at hm hm'
    rw [lk_enMap, Option.map_eq_some_iff] at hm hm'
    obtain ⟨y, hy, rfl⟩ := hm
    obtain ⟨y', hy', rfl⟩ := hm'
    have := hg.mem.inj _ _ _ _ hy hy' hq
    have := congrArg (swp a b) this
    simpa only [swp_swp] using this
  · simp only [St.swap] at hi ⊢
    rw [hS]
    rw [lk_tmMap, Option.map_eq_some_iff] at hi
    obtain ⟨y, hy, rfl⟩ := hi
    obtain ⟨v, h1, h2⟩ := hg.tm i y hy
    exact ⟨v, h1, h2.swap⟩
  · simp only [St.swap]
    rw [hS]
    exact (hg.gl g x hx).mono (Evo.refl w) NoNm (fun _ h => h.elim)
  · have := hD _ hn
    show n < st.n
    unfold swp at this
    split at this
    · omega
    · split at this
      · omega
      · exact this
  · simp only [St.swap]
    rw [hS]; exact hev.evo
  · have : swp a b n = n := by
      unfold swp
      rw [if_neg (fun q : n = a => hna (by rw [← q]; exact hn)), if_neg (fun q : n = b => hnb (by rw [← q]; exact hn))]
    show D (swp a b n) ∧ ρ (swp a b n) = _
    rw [this]; exact hev.agree n hn
  · simp only [St.swap] at hm
    rw [lk_enMap, Option.map_eq_some_iff] at hm
    obtain ⟨y, hy, rfl⟩ := hm
    exact hev.fresh _ y hy
theorem W.swap {ro : Option Nat} {P : Program} {G : Nat → Option AV} {h : Ents} {c : Code} {st : St} {Q : Exit → St → Prop} (a b : Nat) (hn : (¬ Nm h a ∧ ¬ Nm h b) ∧ a < st.n ∧ b < st.n) (hw : W ro P G h c (st.swap a b) Q) : W ro P G h c st Q :=
  fun C act w hat => hw C act w (hat.swap hn.1.1 hn.1.2 hn.2.1 hn.2.2)
/-- A loop whose rounds may exchange two names. -/
theorem W.loopS {ro : Option Nat} {P : Program} {G : Nat → Option AV} {h : Ents} {ι : Type} {c : Code} {st : St} {Q : Exit → St → Prop} (p : ι → Prop) (I : ι → St) (μ : ι → Nat) (i0 : ι) (hp : p i0) (h0 : wk h st (I i0))
    (round : ∀ i, p i → ∀ K : St → Prop, (∀ s j a b, p j → μ j < μ i → (¬ Nm h a ∧ ¬ Nm h b) ∧ a < s.n ∧ b < s.n → wk h (s.swap a b) (I j) → K s) → W ro P G h c (I i) (thn K Q)) : W ro P G h (.loop c) st Q := by
  intro C act w ha
  refine wpIn_loop_ghost (fun n a w => ∃ i, p i ∧ μ i = n ∧ At G h C (I i) a w) (μ i0) ⟨i0, hp, rfl, ha.weaken (Wk.of h0)⟩ ?_
  rintro n a' w' ⟨i, hpi, rfl, hi⟩
  refine wpIn_mono (round i hpi (fun s => ∃ j a b, p j ∧ μ j < μ i ∧ ((¬ Nm h a ∧ ¬ Nm h b) ∧ a < s.n ∧ b < s.n) ∧ wk h (s.swap a b) (I j)) (fun s j a b h1 h2 h3 h4 => ⟨j, a, b, h1, h2, h3, h4⟩) C a' w' hi) ?_
  rintro z a'' w'' ⟨s, h1, h2⟩
  cases z with
  | normal =>
    obtain ⟨j, a, b, k1, k2, k3, k4⟩ := h1
    exact ⟨μ j, k2, j, k1, rfl, (h2.swap k3.1.1 k3.1.2 k3.2.1 k3.2.2).weaken (Wk.of k4)⟩
  | _ => exact ⟨s, h1, h2⟩
/-- Guards that are decided: what is not taken is not looked at. -/
theorem gTT (q : Prop) : (true = true → q) = q := by simp
theorem gFF (q : Prop) : (false = false → q) = q := by simp
theorem gTF (q : Prop) : (true = false → q) = True := by simp
theorem gFT (q : Prop) : (false = true → q) = True := by simp
theorem nTT (q : Prop) : (true ≠ true → q) = True := by simp
theorem nFF (q : Prop) : (false ≠ false → q) = True := by simp
theorem nTF (q : Prop) : (true ≠ false → q) = q := by simp
theorem nFT (q : Prop) : (false ≠ true → q) = q := by simp
/-- What follows waits till its turn comes. -/
def nx (F : St → (St → Prop) → Prop) (st : St) (dst : Option Tmp) (K : St → Prop) (v : AV) (d : Del) : Prop := F ⟨putT st.t dst v, ap d st.e, st.n + 16, st.m⟩ K
def nxD (F : Tms → Ents → Nat → (St → Prop) → Prop) (k : Nat) (t : Tms) (e : Ents) (n : Nat) (dst : Option Tmp) (K : St → Prop) (v : AV) (d : Del) : Prop := ownB k n d ∧ F (putT t dst v) (ap d e) (n + 16) K
def cur (K : AV → Del → Prop) (r : AV × Del) : Prop := K r.1 r.2
def curV (K : AV → Del → Prop) (v : AV) : Prop := K v []
section
variable {P : Program} {tt : Nat → Option TI} {G : Nat → Option AV}
theorem nx_eq {F : St → (St → Prop) → Prop} {st : St} {dst : Option Tmp} {K : St → Prop} {v : AV} {d : Del} : nx F st dst K v d = F ⟨putT st.t dst v, ap d st.e, st.n + 16, st.m⟩ K := propext ⟨fun h => h, fun h => h⟩
theorem nxD_eq {F : Tms → Ents → Nat → (St → Prop) → Prop} {k : Nat} {t : Tms} {e : Ents} {n : Nat} {dst : Option Tmp} {K : St → Prop} {v : AV} {d : Del} : nxD F k t e n dst K v d = (ownB k n d ∧ F (putT t dst v) (ap d e) (n + 16) K) := propext ⟨fun h => h, fun h => h⟩
theorem cur_eq {K : AV → Del → Prop} {v : AV} {d : Del} : cur K (v, d) = K v d := propext ⟨fun h => h, fun h => h⟩
theorem curV_eq {K : AV → Del → Prop} {v : AV} : curV K v = K v [] := propext ⟨fun h => h, fun h => h⟩
theorem exCall_eq {t : Tms} {e : Ents} {nb : Nat} {c : Call} {K : AV → Del → Prop} : exCall P tt G t e nb c K = (match c.callee with
  | .value x =>
    match ev G t x, evL G t c.args.toList with
    | some (.fn (.func f) (.nilf :: bnd)), some as => CallK P G e nb f (bnd ++ as) [] K
    | some (.fn (.func f) cap), some as => CallK P G e nb f as cap K
    | _, _ => False
  | .invoke x name =>
    match ev G t x, evL G t c.args.toList with
    | some (.ifc T v), some as => CallM P G e nb T name v as K
    | _, _ => False
  | .builtin b =>
    match evL G t c.args.toList with
    | some as => onQ (bltQ tt e nb b c.argTypes.toList as) (cur K) ∨ onQ (bltV tt e b c.argTypes.toList as) (curV K)
    | none => False) := by
  obtain ⟨cal, xs, ts⟩ := c
  cases cal <;> rfl
theorem exOp_eq {t : Tms} {e : Ents} {nb : Nat} {o : Op} {K : AV → Del → Prop} : exOp P tt G t e nb o K = (match o with
  | .call c => exCall P tt G t e nb c K
  | o => onQ (stepQ tt G t e nb o) (cur K)) := by
  unfold exOp
  cases o <;> rfl
theorem exOps_nil {all : List Oper} {st : St} {K : St → Prop} : exOps P tt G all [] st K = K st := propext ⟨fun h => h, fun h => h⟩
theorem exOps_cons {all rest : List Oper} {o : Oper} {st : St} {K : St → Prop} : exOps P tt G all (o :: rest) st K = (match o.guard with
    | none => inB o.dst st.m ∧ exOp P tt G st.t st.e st.n o.op (nx (exOps P tt G all rest) st o.dst K)
    | some (j, want) =>
      match ((all[j]?).bind (·.dst)).bind (lk st.t) with
      | some (.bool b) => inB o.dst st.m ∧ (b = want → exOp P tt G st.t st.e st.n o.op (nx (exOps P tt G all rest) st o.dst K)) ∧
          (b ≠ want → exOps P tt G all rest ⟨putT st.t o.dst (.tup []), st.e, st.n + 16, st.m⟩ K)
      | some (.tup []) => inB o.dst st.m ∧ exOps P tt G all rest ⟨putT st.t o.dst (.tup []), st.e, st.n + 16, st.m⟩ K
      | _ => False) := by
  obtain ⟨dst, op, ty, pos, after, gd⟩ := o
  cases gd <;> rfl
theorem exD_nil {all : List Oper} {n0 m : Nat} {A : Infs} {t : Tms} {e : Ents} {n : Nat} {K : St → Prop} : exD P tt G all n0 m [] A t e n K = K ⟨t, e, n, m⟩ := by rw [exD.eq_def]
theorem exD_cons {all rest : List Oper} {o : Oper} {n0 m : Nat} {q : Inf} {A : Infs} {t : Tms} {e : Ents} {n : Nat} {K : St → Prop} : exD P tt G all n0 m (o :: rest) (q :: A) t e n K = (inB o.dst m ∧
    match o.guard with
    | none => exOp P tt G t (flI q n0 e) n o.op (nxD (exD P tt G all n0 m rest A) q.k t e n o.dst K)
    | some (j, want) =>
      match gdV all t j with
      | some (.bool b) => (b = want → exOp P tt G t (flI q n0 e) n o.op (nxD (exD P tt G all n0 m rest A) q.k t e n o.dst K)) ∧
          (b ≠ want → exD P tt G all n0 m rest A (putT t o.dst (.tup [])) e (n + 16) K)
      | _ => False) := by
  obtain ⟨dst, op, ty, pos, after, gd⟩ := o
  cases gd <;> rfl
end
@[congr] theorem onQ.cong {α : Type} {x x' : Q α} {K : α → Prop} (h : x = x') : onQ x K = onQ x' K := by subst h; rfl
@[congr] theorem opt.cong {α β : Type} {x x' : Option α} {f : α → Q β} (h : x = x') : opt x f = opt x' f := by subst h; rfl
@[congr] theorem bnd.cong {α β : Type} {x x' : Q α} {f : α → Q β} (h : x = x') : bnd x f = bnd x' f := by subst h; rfl

/-- A body whose results, more than one, are told by value. -/
def finTB (tt : Nat → Option TI) (rs : List ResultVar) (r : List AV) (st : St) : Prop :=
  onQ (resQ tt st.e st.t rs) (fun vs => vs.length ≠ 1 ∧ onQ (vw.vwL st.e [] vs) fun p => p.1 = r)
def finT (tt : Nat → Option TI) (rs : List ResultVar) (r : List AV) : Exit → St → Prop
  | .normal, st => finTB tt rs r st
  | .ret, st => finTB tt rs r st
  | _, _ => False
theorem finT_ret {tt : Nat → Option TI} {rs : List ResultVar} {r : List AV} {st : St} : finT tt rs r .ret st = finTB tt rs r st := rfl
theorem finT_normal {tt : Nat → Option TI} {rs : List ResultVar} {r : List AV} {st : St} : finT tt rs r .normal st = finTB tt rs r st := rfl
theorem vwL_each {e h : Ents} : ∀ {l l' : List AV} {f : Bool}, Ok (vw.vwL e h l) (l', f) → l'.length = l.length ∧ ∀ (i : Nat) x', l'[i]? = some x' → ∃ x f', l[i]? = some x ∧ Ok (vw e h x) (x', f')
  | [], l', f, hk => by
    simp only [vw.vwL] at hk
    cases hk.ret
    exact ⟨rfl, fun i x' h => by simp at h⟩
  | a :: l, l', f, hk => by
    simp only [vw.vwL] at hk
    obtain ⟨⟨a', f1⟩, h1, hk⟩ := hk.bnd
    obtain ⟨⟨l1, f2⟩, h2, hk⟩ := hk.bnd
    cases hk.ret
    obtain ⟨h3, h4⟩ := vwL_each h2
    refine ⟨by simp [h3], fun i x' hi => ?_⟩
    cases i with
    | zero => simp at hi; subst hi; exact ⟨a, f1, rfl, h1⟩
    | succ i => simpa using h4 i x' (by simpa using hi)
theorem FnR.of_walkT {P : Program} {tt : Nat → Option TI} {G : Nat → Option AV} (hTT : TT P tt) {f : FuncId} {fn : Func} {c : Code} {args : List AV} {r : List AV} {m : Nat} (hf : P.funcs[f]? = some fn) (hb : fn.body = some c)
    (hm : fn.ntmps = m) (hargs : args.length ≤ m) (hW : W none P G [] c ⟨parT 0 args, [], 0, m⟩ (finT tt fn.results.toList r)) : FnR P G f args [] (.tup r) [] := by
  intro B ρ w vs hbig hmem hgl hlen ha
  subst hm
  refine calls_of_marks hf hb (fun _ _ h => h) rfl (hW ⟨B, ρ, w, hbig, fun _ _ => False, []⟩ _ w ?_) (fun x st hx => by cases x <;> first | exact .inl rfl | exact .inr rfl | exact hx.elim) ?_
  · refine ⟨ρ, Nm [], ⟨hmem, fun i x hi => ?_, hbig, hgl⟩, ⟨Mk.nil rfl, ?_⟩, fun n h => (by cases h), Evol.refl w⟩
    · obtain ⟨_, h2⟩ := lk_parT args 0 i x hi
      obtain ⟨v, h3, h4⟩ := ha i x (by simpa using h2)
      have hlt := (List.getElem?_eq_some_iff.1 h3).1
      exact ⟨v, by simp only [Array.getElem?_append, List.size_toArray]; rw [if_pos hlt]; simpa using h3, h4⟩
    · simp; omega
  · rintro x st tmps' w' hx hat
    obtain ⟨ρ', D', hg, hd, hD, hev⟩ := hat
    have key : finTB tt fn.results.toList r st → ∃ u, (results fn tmps').run P w' = .ok u w' ∧ ∃ x ρ', Ending.returned u = .returned x ∧ RV ρ' (Stab B ρ' [] w') w' (Nm []) (.tup r) x ∧ Mem B ρ' (Nm []) [] w' ∧ Kept B ρ [] w ρ' [] w' := by
      intro hv
      obtain ⟨us, h1, h2, h3⟩ := onQ_spec hv
      obtain ⟨⟨r', f'⟩, h4, h5⟩ := onQ_spec h3
      simp only at h5
      subst h5
      obtain ⟨u, h6, h7⟩ := results_run (P := P) hTT hg h1
      have hrv : resV us = .tup us := by
        match us, h2 with
        | [], _ => rfl
        | _ :: _ :: _, _ => rfl
      rw [hrv] at h7
      have hS : ∀ b, Stab B ρ' st.e w' b → Stab B ρ' [] w' b := fun b hb => ⟨hb.1, hb.2.1, fun m x hm => (by cases hm)⟩
      obtain ⟨k1, k2⟩ := vwL_each h4
      refine ⟨u, h6, u, ρ', rfl, ?_, ⟨fun m x hm => by (cases hm), fun m m' x x' hm => by (cases hm)⟩,
        ⟨fun b hb => ⟨hS b (hev.evo.stable b hb).1, (hev.evo.stable b hb).2⟩, hev.evo.sized⟩, fun n h1 _ => (hev.agree n h1).2, fun m x hm => by (cases hm), hev.size, hev.os, hev.out, hev.tape, hev.others⟩
      cases h7 with
      | one h => cases h
      | tup hl hh =>
        refine .tup (by rw [hl, k1]) (fun i x' hi => ?_)
        obtain ⟨x, f1, hx1, hx2⟩ := k2 i x' hi
        obtain ⟨cs, hc1, hc2⟩ := hh i x hx1
        obtain ⟨j1, j2⟩ := vw_sound (S' := Stab B ρ' [] w') (F := true) hS (fun nm x hx => (hg.mem.en nm x hx).2) (fun _ nm x hx _ => by
          refine ⟨hbig _ ?_, hg.mem.block_lt hx, fun m x hm => (by cases hm)⟩
          rcases hev.fresh nm x hx with ⟨m0, x0, h0, _⟩ | h
          · cases h0
          · exact h) _ cs x' f1 hc1 hx2 (fun _ => rfl)
        refine ⟨cs, j1, ?_⟩
        rw [hc2]
        simp only [shape, j2]
    cases x with
    | normal => exact key hx
    | ret => exact key hx
    | _ => exact hx.elim
end Sx

/- What the arguments of a statement read as. -/
set_option linter.unusedVariables false
set_option linter.unusedSimpArgs false
namespace Sx
open Go

/-- Names of what a call makes, exchanged. -/
theorem Nm.swap {a b : Nat} {h : Ents} : Nm (enMap (swp a b) h) = fun n => Nm h (swp a b n) := by
  funext n
  unfold Nm
  rw [lk_enMap]
  simp
theorem FnR.rename {P : Program} {G : Nat → Option AV} {f : FuncId} {args : List AV} {r : AV} {h' : Ents} (a b : Nat) (hF : FnR P G f args [] r h') : FnR P G f args [] (r.map (swp a b)) (enMap (swp a b) h') := by
  intro B ρ w vs hb hm hg hl ha
  refine (hF B ρ w vs hb hm hg hl ha).mono ?_
  rintro e w' ⟨x, ρ', rfl, hr, hmem, hk⟩
  have hS : Stab B (fun n => ρ' (swp a b n)) (enMap (swp a b) h') w' = Stab B ρ' h' w' := Stab.swap
  refine ⟨x, fun n => ρ' (swp a b n), rfl, ?_, ⟨fun m y hy => ?_, fun m m' y y' hy hy' hq => ?_⟩, ⟨?_, fun n hn _ => (by cases hn), fun m y hy => ?_, hk.size, hk.os, hk.out, hk.tape, hk.others⟩⟩
  · rw [hS, Nm.swap]; exact hr.swap
  · rw [hS, Nm.swap]
    rw [lk_enMap, Option.map_eq_some_iff] at hy
    obtain ⟨z, hz, rfl⟩ := hy
    exact ⟨(hmem.en _ z hz).1, (hmem.en _ z hz).2.swap⟩
  · rw [lk_enMap, Option.map_eq_some_iff] at hy hy'
    obtain ⟨z, hz, rfl⟩ := hy
    obtain ⟨z', hz', rfl⟩ := hy'
    have := congrArg (swp a b) (hmem.inj _ _ _ _ hz hz' hq)
    simpa only [swp_swp] using this
  · rw [hS]; exact hk.evo
  · rw [lk_enMap, Option.map_eq_some_iff] at hy
    obtain ⟨z, hz, rfl⟩ := hy
    exact hk.fresh _ z hz

mutual
theorem AV.map_swp2 (a b : Nat) : ∀ x : AV, (x.map (swp a b)).map (swp a b) = x
  | .int _ _ | .bool _ | .str _ | .ints _ _ _ | .pel _ | .nils | .nilp | .nilf | .nili | .nilm | .lstI _ _ | .lstS _ | .lst _ _ | .unk => by simp [AV.map]
  | .ptr _ _ _ _ | .sl _ _ _ _ | .mp _ => by simp [AV.map, swp_swp]
  | .agg cs => by simp only [AV.map, AV.mapL_swp2 a b cs]
  | .tup l => by simp only [AV.map, AV.mapL_swp2 a b l]
  | .fn f cap => by simp only [AV.map, AV.mapL_swp2 a b cap]
  | .ifc t v => by simp only [AV.map, AV.map_swp2 a b v]
theorem AV.mapL_swp2 (a b : Nat) : ∀ l : List AV, AV.mapL (swp a b) (AV.mapL (swp a b) l) = l
  | [] => rfl
  | x :: l => by simp only [AV.mapL, AV.map_swp2 a b x, AV.mapL_swp2 a b l]
end
theorem Row.map_swp2 (a b : Nat) (r : Row) : (r.map (swp a b)).map (swp a b) = r := by
  cases r <;> simp [Row.map, AV.mapL_swp2]
theorem Ent.map_swp2 (a b : Nat) (x : Ent) : (x.map (swp a b)).map (swp a b) = x := by
  cases x <;> simp [Ent.map, AV.map_swp2, Row.map_swp2]
/-- A contract with other names. -/
theorem FnR.swap {P : Program} {G : Nat → Option AV} {f : FuncId} {args : List AV} {h : Ents} {r : AV} {h' : Ents} (a b : Nat) (hF : FnR P G f args h r h') : FnR P G f (args.map (AV.map (swp a b))) (enMap (swp a b) h) (r.map (swp a b)) (enMap (swp a b) h') := by
  intro B ρ w vs hb hm hg hl ha
  have hS0 : Stab B (fun n => ρ (swp a b n)) h w = Stab B ρ (enMap (swp a b) h) w := by
    have := Stab.swap (B := B) (ρ := fun n => ρ (swp a b n)) (e := h) (w := w) (a := a) (b := b)
    simpa only [swp_swp] using this.symm
  have hN : (fun n => Nm (enMap (swp a b) h) (swp a b n)) = Nm h := by rw [Nm.swap]; funext n; simp only [swp_swp]
  have key : ∀ m x, lk h m = some x → lk (enMap (swp a b) h) (swp a b m) = some (x.map (swp a b)) := fun m x hx => by rw [lk_enMap, swp_swp, hx]; rfl
  refine (hF B (fun n => ρ (swp a b n)) w vs hb ⟨fun m x hx => ?_, fun m m' x x' hx hx' hq => ?_⟩ ?_ (by simpa using hl) (fun i x hi => ?_)).mono ?_
  · have h1 := hm.en _ _ (key m x hx)
    refine ⟨by simp [Nm, hx], ?_⟩
    have h2 := h1.2.swap (a := a) (b := b)
    rw [Ent.map_swp2, hN] at h2
    rw [hS0]
    exact h2
  · have := hm.inj _ _ _ _ (key m x hx) (key m' x' hx') hq
    have := congrArg (swp a b) this
    simpa only [swp_swp] using this
  · intro g x hx
    rw [hS0]
    exact (hg g x hx).mono (Evo.refl w) NoNm (fun _ h => h.elim)
  · obtain ⟨v, h1, h2⟩ := ha i (x.map (swp a b)) (by simp [hi])
    refine ⟨v, h1, ?_⟩
    have h3 := h2.swap (a := a) (b := b)
    rw [AV.map_swp2, hN] at h3
    rw [hS0]
    exact h3
  · rintro e w' ⟨x, ρ', rfl, hr, hmem, hk⟩
    have hS : Stab B (fun n => ρ' (swp a b n)) (enMap (swp a b) h') w' = Stab B ρ' h' w' := Stab.swap
    refine ⟨x, fun n => ρ' (swp a b n), rfl, ?_, ⟨fun m y hy => ?_, fun m m' y y' hy hy' hq => ?_⟩, ⟨?_, fun n hn hn' => ?_, fun m y hy => ?_, hk.size, hk.os, hk.out, hk.tape, fun c hc hno => hk.others c hc (fun m x hx => hno (swp a b m) _ (key m x hx))⟩⟩
    · rw [hS, Nm.swap]; exact hr.swap
    · rw [hS, Nm.swap]
      rw [lk_enMap, Option.map_eq_some_iff] at hy
      obtain ⟨z, hz, rfl⟩ := hy
      exact ⟨(hmem.en _ z hz).1, (hmem.en _ z hz).2.swap⟩
    · rw [lk_enMap, Option.map_eq_some_iff] at hy hy'
      obtain ⟨z, hz, rfl⟩ := hy
      obtain ⟨z', hz', rfl⟩ := hy'
      have := congrArg (swp a b) (hmem.inj _ _ _ _ hz hz' hq)
      simpa only [swp_swp] using this
    · rw [hS, ← hS0]; exact hk.evo
    · rw [Nm.swap] at hn hn'
      have := hk.agree _ hn hn'
      simpa only [swp_swp] using this
    · rw [lk_enMap, Option.map_eq_some_iff] at hy
      obtain ⟨z, hz, rfl⟩ := hy
      rcases hk.fresh _ z hz with ⟨m0, x0, h0, h1⟩ | h1
      · exact .inl ⟨swp a b m0, _, key m0 x0 h0, h1⟩
      · exact .inr h1

/-- What a call makes, told by value. -/
theorem FnR.valT {P : Program} {G : Nat → Option AV} {f : FuncId} {args : List AV} {l l' : List AV} {h' : Ents} {F : Bool} (hF : FnR P G f args [] (.tup l) h') (hv : Ok (vw.vwL h' [] l) (l', F)) : FnR P G f args [] (.tup l') [] := by
  intro B ρ w vs hb hm hg hl ha
  refine (hF B ρ w vs hb hm hg hl ha).mono ?_
  rintro e w' ⟨u, ρ', rfl, hr, hmem, hk⟩
  have hS : ∀ b, Stab B ρ' h' w' b → Stab B ρ' [] w' b := fun b hb => ⟨hb.1, hb.2.1, fun m x hm => (by cases hm)⟩
  obtain ⟨k1, k2⟩ := vwL_each hv
  refine ⟨u, ρ', rfl, ?_, ⟨fun m x hm => by (cases hm), fun m m' x x' hm => by (cases hm)⟩,
    ⟨⟨fun b hb => ⟨hS b (hk.evo.stable b hb).1, (hk.evo.stable b hb).2⟩, hk.evo.sized⟩, fun n h1 _ => (by cases h1), fun m x hm => by (cases hm), hk.size, hk.os, hk.out, hk.tape, hk.others⟩⟩
  cases hr with
  | one h => cases h
  | tup hl hh =>
    refine .tup (by rw [hl, k1]) (fun i x' hi => ?_)
    obtain ⟨x, f1, hx1, hx2⟩ := k2 i x' hi
    obtain ⟨cs, hc1, hc2⟩ := hh i x hx1
    obtain ⟨j1, j2⟩ := vw_sound (S' := Stab B ρ' [] w') (F := true) hS (fun nm x hx => (hmem.en nm x hx).2) (fun _ nm x hx _ => by
      refine ⟨hb _ ?_, hmem.block_lt hx, fun m x hm => (by cases hm)⟩
      rcases hk.fresh nm x hx with ⟨m0, x0, h0, _⟩ | h
      · cases h0
      · exact h) _ cs x' f1 hc1 hx2 (fun _ => rfl)
    refine ⟨cs, j1, ?_⟩
    rw [hc2]
    simp only [shape, j2]
theorem FnR.val {P : Program} {G : Nat → Option AV} {f : FuncId} {args : List AV} {r r' : AV} {h' : Ents} {F : Bool} (hF : FnR P G f args [] r h') (ht : r.isTup = false) (hv : Ok (vw h' [] r) (r', F)) : FnR P G f args [] r' [] := by
  intro B ρ w vs hb hm hg hl ha
  refine (hF B ρ w vs hb hm hg hl ha).mono ?_
  rintro e w' ⟨u, ρ', rfl, hr, hmem, hk⟩
  have hS : ∀ b, Stab B ρ' h' w' b → Stab B ρ' [] w' b := fun b hb => ⟨hb.1, hb.2.1, fun m x hm => (by cases hm)⟩
  obtain ⟨cs, hu, hr⟩ := hr.inv (fun l hl => by rw [hl] at ht; cases ht)
  obtain ⟨k1, k2⟩ := vw_sound (S' := Stab B ρ' [] w') (F := true) hS (fun nm x hx => (hmem.en nm x hx).2) (fun _ nm x hx _ => by
      refine ⟨hb _ ?_, hmem.block_lt hx, fun m x hm => (by cases hm)⟩
      rcases hk.fresh nm x hx with ⟨m0, x0, h0, _⟩ | h
      · cases h0
      · exact h) _ cs r' F hr hv (fun _ => rfl)
  refine ⟨u, ρ', rfl, ?_, ⟨fun m x hm => by (cases hm), fun m m' x x' hm => by (cases hm)⟩,
    ⟨⟨fun b hb => ⟨hS b (hk.evo.stable b hb).1, (hk.evo.stable b hb).2⟩, hk.evo.sized⟩, fun n h1 _ => (by cases h1), fun m x hm => by (cases hm), hk.size, hk.os, hk.out, hk.tape, hk.others⟩⟩
  have : u = shape r' cs := by rw [hu]; simp only [shape, k2]
  rw [this]
  exact .one k1

/-- Shapes of data. -/
inductive Sh where
  | int (k : IntKind) | bool | str | arrI (k : IntKind) (n : Nat) | slI (k : IntKind) | slS | sl (sz : Nat) (ag : Bool) (e : Sh) | st (l : List Sh)
  deriving Inhabited

def InK (k : IntKind) (n : Int) : Prop := k.min ≤ n ∧ n ≤ k.max

def oneA (ag : Bool) (cs : List AV) : AV := bif ag then .agg cs else cs.headD (.tup [])

mutual
/-- The parts that a datum of a shape has. -/
def Opn : Sh → List AV → Prop
  | .int k, l => ∃ n, l = [.int k n] ∧ InK k n
  | .bool, l => ∃ b, l = [.bool b]
  | .str, l => ∃ s : ByteArray, l = [.str s] ∧ s.size ≤ maxLen
  | .arrI k n, l => ∃ xs, l = [.ints k n xs] ∧ xs.length = n ∧ ∀ x ∈ xs, InK k x
  | .slI k, l => ∃ xs, l = [.lstI k xs] ∧ xs.length ≤ maxLen ∧ ∀ x ∈ xs, InK k x
  | .slS, l => ∃ ss, l = [.lstS ss] ∧ ss.length ≤ maxLen ∧ ∀ s ∈ ss, s.size ≤ maxLen
  | .sl sz ag e, l => ∃ as, l = [.lst sz as] ∧ as.length ≤ maxLen ∧ ∀ a ∈ as, ∃ cs, Opn e cs ∧ a = oneA ag cs
  | .st es, l => OpnL es l
def OpnL : List Sh → List AV → Prop
  | [], l => l = []
  | e :: es, l => ∃ a b, l = a ++ b ∧ Opn e a ∧ OpnL es b
end

def isAg (P : Program) (t : TypeId) : Bool :=
  match P.underlying t with
  | some (.struct _) => true
  | some (.array _ _) => true
  | _ => false

def fieldsOK (P : Program) : Nat → List Field → Nat → Bool
  | o, [], tot => o == tot
  | o, f :: fs, tot => f.offset == o && fieldsOK P (o + P.cellsOf f.type) fs tot

def slSh (sz : Nat) (ag : Bool) : Sh → Option Sh
  | .int k => bif sz == 1 then some (.slI k) else none
  | .str => bif sz == 1 then some .slS else none
  | s => bif Nat.blt 0 sz then some (.sl sz ag s) else none

def arSh (n sz : Nat) : Sh → Option Sh
  | .int k => bif sz == 1 then some (.arrI k n) else none
  | s => some (.st (List.replicate n s))

def shOf (P : Program) : Nat → TypeId → Option Sh
  | 0, _ => none
  | n + 1, t =>
    match P.underlying t with
    | some (.int k) => some (.int k)
    | some .bool => some .bool
    | some .string => some .str
    | some (.slice e) => (shOf P n e).bind (slSh (P.cellsOf e) (isAg P e))
    | some (.array m e) => bif P.cellsOf t == m * P.cellsOf e then (shOf P n e).bind (arSh m (P.cellsOf e)) else none
    | some (.struct fs) => bif fieldsOK P 0 fs.toList (P.cellsOf t) then (fs.toList.mapM fun f => shOf P n f.type).map .st else none
    | _ => none

section
variable {H : Type} {enc : TypeId × Value → H} {P : Program} {W : World} {ρ : Nat → Nat} {S : Nat → Prop} {N : Nat → Prop}

theorem cells_get {a : Addr} {o n : Nat} {cs : List Value} (h : W.cells? 0 (a.add o) n = some cs) :
    cs.length = n ∧ ∀ j c, cs[j]? = some c → W.cell? ⟨a.block, a.off + o + j, none⟩ = some c ∧ a.block < W.heap.size ∧ (o = 0 → a.spot = none) := by
  unfold World.cells? at h
  rw [if_pos (Nat.zero_le _)] at h
  have hl := mapM_some_length h
  rw [List.length_range] at hl
  refine ⟨hl, fun j c hc => ?_⟩
  have hj : j < n := by have := (List.getElem?_eq_some_iff.1 hc).1; omega
  have h1 := mapM_some_get h j j (by simp [hj])
  rw [hc] at h1
  have hspot : ((a.add o).add j).spot = none := by
    cases hsp : ((a.add o).add j).spot with
    | none => rfl
    | some s =>
      simp only [World.cell?] at h1
      split at h1
      · simp [hsp] at h1
      · cases h1
  have e : (a.add o).add j = ⟨a.block, a.off + o + j, none⟩ := by
    unfold Addr.add at hspot ⊢
    by_cases ho : o = 0 <;> by_cases hj0 : j = 0 <;> simp [ho, hj0] at hspot ⊢
    · cases a; simp_all
  rw [e] at h1
  refine ⟨h1, ?_, ?_⟩
  · unfold World.cell? at h1
    split at h1
    · next hh => exact (Array.getElem?_eq_some_iff.1 hh).1
    · cases h1
  · intro ho
    have h2 := mapM_some_get h 0 0 (List.getElem?_range (by omega))
    subst ho
    have e0 : (a.add 0).add 0 = a := by simp [Addr.add]
    rw [List.getElem?_eq_getElem (by omega), e0] at h2
    cases hsp : a.spot with
    | none => rfl
    | some s =>
      simp only [World.cell?] at h2
      split at h2
      · simp [hsp] at h2
      · cases h2

theorem RC.un1 {a : AV} {cs : List Value} (h : RC ρ S W N (.agg [a]) cs) : RC ρ S W N a cs := by
  cases h with
  | cons h1 h2 => cases h2; simpa using h1
theorem RC.mk1 {a : AV} {cs : List Value} (h : RC ρ S W N a cs) : RC ρ S W N (.agg [a]) cs := by
  have := RC.cons h (RC.nil (ρ := ρ) (S := S) (w := W) (N := N))
  simpa using this
theorem RC.app : ∀ {l l' : List AV} {cs cs' : List Value}, RC ρ S W N (.agg l) cs → RC ρ S W N (.agg l') cs' → RC ρ S W N (.agg (l ++ l')) (cs ++ cs')
  | [], _, _, _, h, h' => by cases h; simpa using h'
  | a :: l, _, _, _, h, h' => by
    cases h with
    | cons h1 h2 => rw [List.cons_append, List.append_assoc]; exact .cons h1 (RC.app h2 h')

theorem inK_wf {k : IntKind} {n : Int} (h : (Lit.int k n).wf = true) : InK k n := by
  simpa [Lit.wf, InK] using h

/-- What a shape that is one part is: no aggregate. -/
theorem Opn.single {P : Program} {n : Nat} {t : TypeId} {sh : Sh} {l : List AV} (h : shOf P n t = some sh) (ho : Opn sh l) (ha : isAg P t = false) : ∃ a, l = [a] ∧ a.isAgg = false := by
  cases n with
  | zero => cases h
  | succ n =>
    unfold shOf at h
    unfold isAg at ha
    split at h
    · cases h; obtain ⟨x, rfl, _⟩ := ho; exact ⟨_, rfl, rfl⟩
    · cases h; obtain ⟨x, rfl⟩ := ho; exact ⟨_, rfl, rfl⟩
    · cases h; obtain ⟨x, rfl, _⟩ := ho; exact ⟨_, rfl, rfl⟩
    · rw [Option.bind_eq_some_iff] at h
      obtain ⟨s, _, hs⟩ := h
      unfold slSh at hs
      split at hs
      · cases hb : P.cellsOf _ == 1 <;> rw [hb] at hs <;> cases hs
        obtain ⟨x, rfl, _⟩ := ho; exact ⟨_, rfl, rfl⟩
      · cases hb : P.cellsOf _ == 1 <;> rw [hb] at hs <;> cases hs
        obtain ⟨x, rfl, _⟩ := ho; exact ⟨_, rfl, rfl⟩
      · cases hb : Nat.blt 0 (P.cellsOf _) <;> rw [hb] at hs <;> cases hs
        obtain ⟨x, rfl, _⟩ := ho; exact ⟨_, rfl, rfl⟩
    · next hu => rw [hu] at ha; cases ha
    · next hu => rw [hu] at ha; cases ha
    · cases h

theorem list_choice {α : Type} {Q : Nat → α → Prop} : ∀ n, (∀ i, i < n → ∃ v, Q i v) → ∃ xs : List α, xs.length = n ∧ ∀ i x, xs[i]? = some x → Q i x
  | 0, _ => ⟨[], rfl, fun i x h => by simp at h⟩
  | n + 1, h => by
    obtain ⟨xs, h1, h2⟩ := list_choice n (fun i hi => h i (by omega))
    obtain ⟨v, hv⟩ := h n (by omega)
    refine ⟨xs ++ [v], by simp [h1], fun i x hx => ?_⟩
    by_cases hi : i < n
    · exact h2 i x (by rwa [List.getElem?_append_left (by omega)] at hx)
    · rw [List.getElem?_append_right (by omega)] at hx
      have : i = n := by
        have := (List.getElem?_eq_some_iff.1 hx).1
        simp at this; omega
      subst this
      simp [h1] at hx
      rw [← hx]; exact hv

theorem open_arr {n sz : Nat} {s : Sh} {cs : List Value} (hR : ∀ i, i < n → ∃ l, Opn s l ∧ RC ρ S W N (.agg l) ((cs.drop (i * sz)).take sz)) :
    ∀ k o, o + k = n → cs.length = n * sz → ∃ l, OpnL (List.replicate k s) l ∧ RC ρ S W N (.agg l) (cs.drop (o * sz))
  | 0, o, h, hl => ⟨[], by rw [List.replicate_zero, OpnL], by
    have e : o = n := by omega
    subst e
    rw [List.drop_of_length_le (by omega)]; exact .nil⟩
  | k + 1, o, h, hl => by
    obtain ⟨l1, h1, h2⟩ := hR o (by omega)
    obtain ⟨l2, h3, h4⟩ := open_arr hR k (o + 1) (by omega) hl
    refine ⟨l1 ++ l2, by rw [List.replicate_succ, OpnL]; exact ⟨l1, l2, rfl, h1, h3⟩, ?_⟩
    have : cs.drop (o * sz) = (cs.drop (o * sz)).take sz ++ cs.drop ((o + 1) * sz) := by
      rw [Nat.add_mul, Nat.one_mul, ← List.drop_drop, List.take_append_drop]
    rw [this]
    exact RC.app h2 h4

theorem open_str {cs : List Value} {tot : Nat} (hl : cs.length = tot) {n : Nat} : ∀ (fs : List Field) (o : Nat) (shs : List Sh), fieldsOK P o fs tot = true → fs.mapM (fun f => shOf P n f.type) = some shs →
    (∀ f ∈ fs, ∀ s, shOf P n f.type = some s → ∃ l, Opn s l ∧ RC ρ S W N (.agg l) ((cs.drop f.offset).take (P.cellsOf f.type))) →
    ∃ l, OpnL shs l ∧ RC ρ S W N (.agg l) (cs.drop o)
  | [], o, shs, hf, hm, _ => by
    simp at hm
    subst hm
    simp [fieldsOK] at hf
    exact ⟨[], by rw [OpnL], by rw [List.drop_of_length_le (by omega)]; exact .nil⟩
  | f :: fs, o, shs, hf, hm, hR => by
    simp only [fieldsOK, Bool.and_eq_true, beq_iff_eq] at hf
    rw [List.mapM_cons] at hm
    simp only [Option.bind_eq_bind, Option.bind_eq_some_iff] at hm
    obtain ⟨s, hs, ss, hss, he⟩ := hm
    cases he
    obtain ⟨l1, h1, h2⟩ := hR f (by simp) s hs
    obtain ⟨l2, h3, h4⟩ := open_str hl fs (o + P.cellsOf f.type) ss hf.2 hss (fun g hg => hR g (by simp [hg]))
    refine ⟨l1 ++ l2, by rw [OpnL]; exact ⟨l1, l2, rfl, h1, h3⟩, ?_⟩
    have : cs.drop o = (cs.drop o).take (P.cellsOf f.type) ++ cs.drop (o + P.cellsOf f.type) := by
      rw [← List.drop_drop, List.take_append_drop]
    rw [this]
    rw [hf.1] at h2
    exact RC.app h2 h4

theorem open_sh (hS : ∀ b, b < W.heap.size → S b) {sp : Nat → Bool} {held : Bool} : ∀ (n : Nat) (t : TypeId) (sh : Sh), shOf P n t = some sh → ∀ (m : Nat) (cs : List Value) (x : DataW H × List MemPlace), DataW.trod enc P W 0 sp held m t cs = some x →
    ∃ l, Opn sh l ∧ RC ρ S W NoNm (.agg l) cs
  | 0, _, _, h, _, _, _, _ => by cases h
  | n + 1, t, sh, h, m, cs, x, hd => by
    have h0 := h
    unfold shOf at h
    split at h
    · next k hu =>
      cases h
      obtain ⟨v, rfl, rfl, hw⟩ := DataW.trod_int hu hd
      exact ⟨[.int k v], ⟨v, rfl, inK_wf hw⟩, .mk1 .int⟩
    · next hu =>
      cases h
      obtain ⟨v, rfl, rfl⟩ := DataW.trod_bool hu hd
      exact ⟨[.bool v], ⟨v, rfl⟩, .mk1 .bool⟩
    · next hu =>
      cases h
      obtain ⟨v, rfl, rfl, hw⟩ := DataW.trod_string hu hd
      exact ⟨[.str v], ⟨v, rfl, hw⟩, .mk1 .str⟩
    · next e hu =>
      rw [Option.bind_eq_some_iff] at h
      obtain ⟨s, hs, hsh⟩ := h
      rcases DataW.trod_slice hu hd with ⟨rfl, rfl⟩ | ⟨a, len, cap, elems, rest, q, rfl, rfl, rfl, _, hlc, hcm, hel, hget, _, _⟩
      · -- nil
        unfold slSh at hsh
        split at hsh
        · cases hb : P.cellsOf e == 1 <;> rw [hb] at hsh <;> cases hsh
          exact ⟨[.lstI _ []], ⟨[], rfl, by simp, by simp⟩, .mk1 (.lstI (xs := []) (a := none) (cap := 0) (by simp) (by simp) (fun i x h => by simp at h))⟩
        · cases hb : P.cellsOf e == 1 <;> rw [hb] at hsh <;> cases hsh
          exact ⟨[.lstS []], ⟨[], rfl, by simp, by simp⟩, .mk1 (.lstS (ss := []) (a := none) (cap := 0) (by simp) (by simp) (fun i x h => by simp at h))⟩
        · cases hb : Nat.blt 0 (P.cellsOf e) <;> rw [hb] at hsh <;> cases hsh
          exact ⟨[.lst _ []], ⟨[], rfl, by simp, by simp⟩, .mk1 (.lst (l := []) (a := none) (cap := 0) (fun _ => []) (by simp) (by simp) (fun i x h => by simp at h) (fun i x h => by simp at h))⟩
      · have gets : ∀ i, i < len → ∃ y cs', elems[i]? = some y ∧ cs'.length = P.cellsOf e ∧ DataW.trod enc P W 0 sp held q e cs' = some y ∧
            ∀ j c, cs'[j]? = some c → W.cell? ⟨a.block, a.off + i * P.cellsOf e + j, none⟩ = some c ∧ a.block < W.heap.size ∧ a.spot = none := by
          intro i hi
          obtain ⟨y, hy⟩ : ∃ y, elems[i]? = some y := ⟨elems[i]'(by omega), by simp⟩
          have h0 := hget i hi
          rw [hy, Option.bind_eq_some_iff] at h0
          obtain ⟨cs', hc, ht⟩ := h0
          obtain ⟨h1, h2⟩ := cells_get hc
          refine ⟨y, cs', hy, h1, ht, fun j c hj => ?_⟩
          obtain ⟨h3, h4, _⟩ := h2 j c hj
          refine ⟨h3, h4, ?_⟩
          have hpos : 0 < P.cellsOf e := by have := (List.getElem?_eq_some_iff.1 hj).1; omega
          have hz := hget 0 (by omega)
          rw [List.getElem?_eq_getElem (by omega), Option.bind_eq_some_iff] at hz
          obtain ⟨cs0, hc0, _⟩ := hz
          obtain ⟨k1, k2⟩ := cells_get hc0
          exact (k2 0 cs0[0] (by simp)).2.2 (by simp)
        have ih := fun cs y => open_sh hS (sp := sp) (held := held) n e s hs q cs y
        unfold slSh at hsh
        split at hsh
        · next k =>
          cases hb : P.cellsOf e == 1 <;> rw [hb] at hsh <;> cases hsh
          have hz : P.cellsOf e = 1 := by simpa using hb
          obtain ⟨xs, hx1, hx2⟩ := list_choice (Q := fun i v => InK k v ∧ W.cell? ⟨a.block, a.off + i, none⟩ = some (.int k v) ∧ a.block < W.heap.size ∧ a.spot = none) len (fun i hi => by
            obtain ⟨y, cs', _, _, h2, h3⟩ := gets i hi
            obtain ⟨l, ⟨v, rfl, hv⟩, hrc⟩ := ih cs' y h2
            have h4 := RC.un1 hrc
            cases h4
            have h5 := h3 0 _ rfl
            rw [hz, Nat.mul_one, Nat.add_zero] at h5
            exact ⟨v, hv, h5⟩)
          refine ⟨[.lstI k xs], ⟨_, rfl, by omega, ?_⟩, .mk1 ?_⟩
          · intro x hx
            obtain ⟨i, hi⟩ := List.getElem?_of_mem hx
            exact (hx2 i x hi).1
          · have := RC.lstI (ρ := ρ) (S := S) (w := W) (N := NoNm) (k := k) (xs := xs) (a := some a) (cap := cap) (by omega) hcm (fun i x hx => by
              obtain ⟨_, h5, h6, h7⟩ := hx2 i x hx
              exact ⟨a.block, a.off, by cases a; simp at h7; subst h7; rfl, hS _ h6, h5⟩)
            rw [hx1] at this
            exact this
        · cases hb : P.cellsOf e == 1 <;> rw [hb] at hsh <;> cases hsh
          have hz : P.cellsOf e = 1 := by simpa using hb
          obtain ⟨xs, hx1, hx2⟩ := list_choice (Q := fun i (v : ByteArray) => v.size ≤ maxLen ∧ W.cell? ⟨a.block, a.off + i, none⟩ = some (.string v) ∧ a.block < W.heap.size ∧ a.spot = none) len (fun i hi => by
            obtain ⟨y, cs', _, _, h2, h3⟩ := gets i hi
            obtain ⟨l, ⟨v, rfl, hv⟩, hrc⟩ := ih cs' y h2
            have h4 := RC.un1 hrc
            cases h4
            have h5 := h3 0 _ rfl
            rw [hz, Nat.mul_one, Nat.add_zero] at h5
            exact ⟨v, hv, h5⟩)
          refine ⟨[.lstS xs], ⟨_, rfl, by omega, ?_⟩, .mk1 ?_⟩
          · intro x hx
            obtain ⟨i, hi⟩ := List.getElem?_of_mem hx
            exact (hx2 i x hi).1
          · have := RC.lstS (ρ := ρ) (S := S) (w := W) (N := NoNm) (ss := xs) (a := some a) (cap := cap) (by omega) hcm (fun i x hx => by
              obtain ⟨_, h5, h6, h7⟩ := hx2 i x hx
              exact ⟨a.block, a.off, by cases a; simp at h7; subst h7; rfl, hS _ h6, h5⟩)
            rw [hx1] at this
            exact this
        · cases hb : Nat.blt 0 (P.cellsOf e) <;> rw [hb] at hsh <;> cases hsh
          have hz : 0 < P.cellsOf e := by simpa [Nat.blt_eq] using hb
          obtain ⟨xs, hx1, hx2⟩ := list_choice (Q := fun i (v : AV × List Value) => (∃ cs, Opn s cs ∧ v.1 = oneA (isAg P e) cs) ∧ RC ρ S W NoNm v.1 v.2 ∧ v.2.length = P.cellsOf e ∧ (∀ j u, v.2[j]? = some u → W.cell? ⟨a.block, a.off + i * P.cellsOf e + j, none⟩ = some u) ∧ a.block < W.heap.size ∧ a.spot = none) len (fun i hi => by
            obtain ⟨y, cs', _, h1, h2, h3⟩ := gets i hi
            obtain ⟨l, hl, hrc⟩ := open_sh hS (sp := sp) (held := held) n e s hs q cs' y h2
            have h5 := h3 0 cs'[0] (by simp)
            refine ⟨(oneA (isAg P e) l, cs'), ⟨l, hl, rfl⟩, ?_, h1, fun j u hj => (h3 j u hj).1, h5.2.1, h5.2.2⟩
            cases ha : isAg P e with
            | true => exact hrc
            | false =>
              obtain ⟨b, rfl, _⟩ := Opn.single hs hl ha
              exact RC.un1 hrc)
          refine ⟨[.lst _ (xs.map (·.1))], ⟨_, rfl, by rw [List.length_map]; omega, ?_⟩, .mk1 ?_⟩
          · intro x hx
            obtain ⟨z, hz1, rfl⟩ := List.mem_map.1 hx
            obtain ⟨i, hi⟩ := List.getElem?_of_mem hz1
            exact (hx2 i z hi).1
          · have := RC.lst (ρ := ρ) (S := S) (w := W) (N := NoNm) (sz := P.cellsOf e) (l := xs.map (·.1)) (a := some a) (cap := cap) (fun i => ((xs[i]?).map (·.2)).getD []) (by rw [List.length_map]; omega) hcm (fun i x hx => by
              rw [List.getElem?_map, Option.map_eq_some_iff] at hx
              obtain ⟨z, h1, rfl⟩ := hx
              rw [h1]
              exact (hx2 i z h1).2.1) (fun i x hx => by
              rw [List.getElem?_map, Option.map_eq_some_iff] at hx
              obtain ⟨z, h1, rfl⟩ := hx
              rw [h1]
              obtain ⟨_, _, h4, h5, h6, h7⟩ := hx2 i z h1
              exact ⟨h4, a.block, a.off, by cases a; simp at h7; subst h7; rfl, hS _ h6, h5⟩)
            rw [List.length_map, hx1] at this
            exact this
    · next m' e hu =>
      cases hb : P.cellsOf t == m' * P.cellsOf e <;> rw [hb] at h
      · cases h
      rw [cond_true, Option.bind_eq_some_iff] at h
      obtain ⟨s, hs, hsh⟩ := h
      obtain ⟨xs, q, rfl, rfl, hl, hn, hget⟩ := DataW.trod_array hu hd
      have hlen : cs.length = m' * P.cellsOf e := by rw [hl]; simpa using hb
      have hR : ∀ i, i < m' → ∃ l, Opn s l ∧ RC ρ S W NoNm (.agg l) ((cs.drop (i * P.cellsOf e)).take (P.cellsOf e)) := by
        intro i hi
        have h1 := hget i hi
        rw [List.getElem?_eq_getElem (by omega)] at h1
        exact open_sh hS n e s hs q _ _ h1
      unfold arSh at hsh
      split at hsh
      · next k =>
        cases hb1 : P.cellsOf e == 1 <;> rw [hb1] at hsh <;> cases hsh
        have hz : P.cellsOf e = 1 := by simpa using hb1
        rw [hz, Nat.mul_one] at hlen
        obtain ⟨ys, hy1, hy2⟩ := list_choice (Q := fun i v => InK k v ∧ cs[i]? = some (.int k v)) m' (fun i hi => by
          obtain ⟨l, ⟨v, rfl, hv⟩, hrc⟩ := hR i hi
          have h4 := RC.un1 hrc
          rw [hz, Nat.mul_one] at h4
          have h5 : (cs.drop i).take 1 = [.int k v] := by
            generalize hg : (cs.drop i).take 1 = g at h4
            cases h4; rfl
          refine ⟨v, hv, ?_⟩
          have := congrArg (fun l => l[0]?) h5
          simpa using this)
        have hcs : cs = ys.map (Value.int k) := by
          apply List.ext_getElem?
          intro i
          rw [List.getElem?_map]
          by_cases hi : i < m'
          · rw [List.getElem?_eq_getElem (l := ys) (by omega)]
            exact (hy2 i ys[i] (by simp)).2
          · rw [List.getElem?_eq_none (by omega), List.getElem?_eq_none (by omega)]; rfl
        refine ⟨[.ints k m' ys], ⟨ys, rfl, hy1, fun x hx => ?_⟩, .mk1 ?_⟩
        · obtain ⟨i, hi⟩ := List.getElem?_of_mem hx
          exact (hy2 i x hi).1
        · rw [hcs]; exact .ints hy1
      · cases hsh
        obtain ⟨l, h1, h2⟩ := open_arr hR m' 0 (by omega) hlen
        exact ⟨l, h1, by simpa using h2⟩
    · next fs hu =>
      cases hb : fieldsOK P 0 fs.toList (P.cellsOf t) <;> rw [hb] at h
      · cases h
      rw [cond_true, Option.map_eq_some_iff] at h
      obtain ⟨ss, hss, rfl⟩ := h
      obtain ⟨xs, q, rfl, rfl, hl, hn, hget⟩ := DataW.trod_struct hu hd
      obtain ⟨l, h1, h2⟩ := open_str (ρ := ρ) (S := S) (W := W) (N := NoNm) hl fs.toList 0 ss hb hss (fun f hf s hs => by
        obtain ⟨i, hi⟩ := List.getElem?_of_mem hf
        have hi' : fs[i]? = some f := by simpa using hi
        have h1 := hget i f hi'
        have hlt : i < fs.size := (Array.getElem?_eq_some_iff.1 hi').1
        rw [List.getElem?_eq_getElem (by omega)] at h1
        exact open_sh hS n f.type s hs q _ _ h1)
      exact ⟨l, h1, by simpa using h2⟩
    · cases h
end
end Sx

/- From a contract to a statement. -/
set_option linter.unusedVariables false
set_option linter.unusedSimpArgs false
namespace Sx
open Go

section
variable {H : Type} {enc : TypeId × Value → H} {P : Program} {W : World} {ρ : Nat → Nat} {S : Nat → Prop}

/-- The arguments, by their types' shapes. -/
def OpnAs (P : Program) : List TypeId → List Sh → List AV → Prop
  | [], _, l => l = []
  | t :: ts, ss, l => ∃ s r cs l', ss = s :: r ∧ l = oneA (isAg P t) cs :: l' ∧ Opn s cs ∧ OpnAs P ts r l'

theorem OpnAs.cons {P : Program} {t : TypeId} {ts : List TypeId} {s : Sh} {r : List Sh} {l : List AV} (h : OpnAs P (t :: ts) (s :: r) l) : ∃ cs l', l = oneA (isAg P t) cs :: l' ∧ Opn s cs ∧ OpnAs P ts r l' := by
  obtain ⟨s', r', cs, l', hs, h1, h2, h3⟩ := h
  cases hs
  exact ⟨cs, l', h1, h2, h3⟩

theorem okWide_cells {t : TypeId} {v : Value} {n : Nat} {sh : Sh} (hsh : shOf P n t = some sh) (h : Value.okWide P W .any 0 t v) : (isAg P t = true ∧ v = .agg v.cells) ∨ (isAg P t = false ∧ v.cells = #[v]) := by
  cases n with
  | zero => cases hsh
  | succ n =>
    unfold shOf at hsh
    unfold isAg
    split at hsh
    · next k hu => right; rw [hu]; obtain ⟨x, rfl⟩ := WideShapes.okWide_int hu h; exact ⟨rfl, rfl⟩
    · next hu => right; rw [hu]; obtain ⟨x, rfl⟩ := WideShapes.okWide_bool hu h; exact ⟨rfl, rfl⟩
    · next hu => right; rw [hu]; obtain ⟨x, rfl⟩ := WideShapes.okWide_string hu h; exact ⟨rfl, rfl⟩
    · next e hu => right; rw [hu]; obtain ⟨a, l, c, rfl⟩ := WideShapes.okWide_slice hu h; exact ⟨rfl, rfl⟩
    · next m e hu =>
      left; rw [hu]
      simp only [Value.okWide, hu] at h
      obtain ⟨cs, rfl, _⟩ := h
      exact ⟨rfl, rfl⟩
    · next fs hu =>
      left; rw [hu]
      simp only [Value.okWide, hu] at h
      obtain ⟨cs, rfl, _⟩ := h
      exact ⟨rfl, rfl⟩
    · cases hsh

theorem open_args (hS : ∀ b, b < W.heap.size → S b) {n : Nat} {sp : Nat → Bool} {held : Bool} : ∀ (ts : List TypeId) (shs : List Sh) (vs : List Value) (ds : List (DataW H)) (ps : List MemPlace), ts.mapM (shOf P n) = some shs →
    DataW.TrodAll enc P W 0 sp held ts vs ds ps → (∀ (j : Nat) t v, ts[j]? = some t → vs[j]? = some v → Value.okWide P W .any 0 t v) →
    ∃ avs, OpnAs P ts shs avs ∧ vs.length = avs.length ∧ ∀ (i : Nat) x, avs[i]? = some x → ∃ v, vs[i]? = some v ∧ RV ρ S W NoNm x v
  | [], shs, vs, ds, ps, hm, ht, _ => by
    cases vs with
    | nil => exact ⟨[], rfl, rfl, fun i x h => by simp at h⟩
    | cons v vs => exact (by simp [DataW.TrodAll] at ht)
  | t :: ts, shs, vs, ds, ps, hm, ht, hv => by
    rw [List.mapM_cons] at hm
    simp only [Option.bind_eq_bind, Option.bind_eq_some_iff] at hm
    obtain ⟨s, hs, ss, hss, he⟩ := hm
    cases he
    match vs, ds, ht with
    | v :: vs, d :: ds, ht =>
      obtain ⟨p, q, h1, h2, rfl⟩ := ht
      obtain ⟨fuel, h1⟩ := h1
      obtain ⟨l, hl, hrc⟩ := open_sh (ρ := ρ) hS n t s hs fuel _ _ h1
      obtain ⟨avs, k1, k2, k3⟩ := open_args hS ts ss vs ds q hss h2 (fun j t v hj hj' => hv (j + 1) t v (by simpa using hj) (by simpa using hj'))
      have hok := hv 0 t v rfl rfl
      refine ⟨oneA (isAg P t) l :: avs, ⟨s, ss, l, avs, rfl, rfl, hl, k1⟩, by simp [k2], fun i x hi => ?_⟩
      cases i with
      | succ i => simpa using k3 i x (by simpa using hi)
      | zero =>
        simp at hi
        subst hi
        refine ⟨v, rfl, ?_⟩
        rcases okWide_cells hs hok with ⟨ha, hc⟩ | ⟨ha, hc⟩
        · rw [ha]
          have := RV.one hrc
          rw [shape] at this
          simp only [AV.isAgg, cond_true] at this
          rw [hc]
          simpa [oneA] using this
        · rw [ha]
          obtain ⟨a, rfl, hag⟩ := Opn.single hs hl ha
          rw [hc] at hrc
          have := RV.one (RC.un1 hrc)
          rw [shape, hag] at this
          simpa [oneA] using this

theorem lawPost {f : Func} {F : FuncId} {s : ChangeSpec} {args : Array Value} {ds gs : List (DataW H)} {before : List MemPlace} {apart : Bool} {tb : TypeId} {shs : List Sh} {n : Nat} {G : Nat → Option AV}
    (hl : laidOutB P = true) (hty : f.params.toList.all (fun t => P.readableRec t && decide (t < P.types.size)) = true)
    (hres : f.resultTypes = #[tb]) (hub : P.underlying tb = some .bool) (hvars : s.vars = [])
    (hs : (s.fn H (ds ++ gs)).results = [.lit (.bool true)] ∧ (s.fn H (ds ++ gs)).args = ds ∧ (s.fn H (ds ++ gs)).vars = [])
    (hval : ∀ (j : Nat) t v, f.params[j]? = some t → args[j]? = some v → Value.okWide P W .any 0 t v)
    (hW : DataW.Whole enc P f.params.toList s.vars apart W args.toList ds gs before)
    (hsh : f.params.toList.mapM (shOf P n) = some shs)
    (hG : GL G id (fun b => b < W.heap.size) W)
    (hF : ∀ avs, OpnAs P f.params.toList shs avs → FnR P G F avs [] (.bool true) []) :
    Calls P F args W fun e W' => ∃ v, e = .returned v ∧ s.post enc P f apart true false false W args v W' := by
  have hW' := hW
  obtain ⟨p, q, hA, hV, hpq, _, _⟩ := hW
  have hlt : ∀ x ∈ before, x.block < W.heap.size := fun x hx => by simpa using hW'.lt x hx
  have hSt : ∀ b, Stab (fun _ => True) id [] W b ↔ b < W.heap.size := fun b => ⟨fun h => h.2.1, fun h => ⟨trivial, h, fun m x hx => by simp [lk] at hx⟩⟩
  have hSt' : Stab (fun _ => True) id [] W = fun b => b < W.heap.size := funext fun b => propext (hSt b)
  obtain ⟨avs, h1, h2, h3⟩ := open_args (ρ := id) (S := fun b => b < W.heap.size) (fun b hb => hb) f.params.toList shs args.toList ds p hsh hA (fun j t v hj hv => hval j t v (by simpa using hj) (by simpa using hv))
  have hmem : Mem (fun _ => True) id (Nm []) [] W := ⟨fun m x hx => by simp [lk] at hx, fun m m' x x' hx => by simp [lk] at hx⟩
  have hc := hF avs h1 (fun _ => True) id W args.toList (fun _ _ => trivial) hmem (by rw [hSt']; exact hG) h2 (fun i x hx => by
    obtain ⟨v, k1, k2⟩ := h3 i x hx
    refine ⟨v, k1, ?_⟩
    rw [hSt']
    exact k2.mono (Evo.refl W) (fun n hn => hn.elim))
  rw [Array.toArray_toList] at hc
  refine hc.mono fun e W' hq => ?_
  obtain ⟨x, ρ', rfl, hr, _, hk⟩ := hq
  have hb : RowKit.Below W.heap.size W W' := ⟨hk.os, hk.tape, hk.out, hk.size, fun k hk' => hk.others k hk' (fun m x hx => by simp [lk] at hx)⟩
  cases hr with
  | one hr =>
    cases hr
    refine ⟨_, rfl, ds, gs, before, [], p, [], hW', ?_, ?_, ?_, hb.frame _, fun h => by cases h⟩
    · rw [hs.1, hres]
      exact ChangeShapes.trodAll_mk1 (RowKit.shut_bool hub true)
    · rw [hs.2.1]
      have go : ∀ (ts : List TypeId) (vs : List Value) (ds : List (DataW H)) (ps : List MemPlace), ts.all (fun t => P.readableRec t && decide (t < P.types.size)) = true → (∀ x ∈ ps, x.block < W.heap.size) →
          DataW.TrodAll enc P W 0 (fun _ => true) true ts vs ds ps → DataW.TrodAll enc P W' 0 (fun b => decide (b < W.heap.size)) true ts vs ds ps := by
        intro ts
        induction ts with
        | nil => intro vs ds ps _ _ h; cases vs <;> cases ds <;> simp_all [DataW.TrodAll]
        | cons t ts ih =>
          intro vs ds ps ht hp h
          match vs, ds, h with
          | v :: vs, d :: ds, h =>
            obtain ⟨a, b, h1, h2, rfl⟩ := h
            simp only [List.all_cons, Bool.and_eq_true, decide_eq_true_eq] at ht
            exact ⟨a, b, RowKit.Below.trod hl ht.1.1 ht.1.2 h1 hb (fun x hx => hp x (by simp [hx])), ih vs ds b (by simpa using ht.2) (fun x hx => hp x (by simp [hx])) h2, rfl⟩
      refine go _ _ _ _ hty (fun x hx => hlt x ?_) hA
      rw [hpq]; simp [hx]
    · rw [hs.2.2, hvars]
      exact rfl

theorem trodAll_len : ∀ {ts : List TypeId} {vs : List Value} {ds : List (DataW H)} {ps : List MemPlace} {base : Nat} {sp : Nat → Bool} {held : Bool}, DataW.TrodAll enc P W base sp held ts vs ds ps → ds.length = ts.length
  | [], [], [], _, _, _, _, _ => rfl
  | t :: ts, v :: vs, d :: ds, _, _, _, _, h => by
    obtain ⟨a, b, _, h2, _⟩ := h
    simp [trodAll_len h2]
end
theorem InK.u8 {n : Int} (h : InK .u8 n) : 0 ≤ n ∧ n < 256 := by
  simp [InK, IntKind.min, IntKind.max, IntKind.signed, IntKind.bits] at h; omega
theorem InK.u16 {n : Int} (h : InK .u16 n) : 0 ≤ n ∧ n < 65536 := by
  simp [InK, IntKind.min, IntKind.max, IntKind.signed, IntKind.bits] at h; omega
theorem InK.u32 {n : Int} (h : InK .u32 n) : 0 ≤ n ∧ n < 4294967296 := by
  simp [InK, IntKind.min, IntKind.max, IntKind.signed, IntKind.bits] at h; omega
theorem InK.u64 {n : Int} (h : InK .u64 n) : 0 ≤ n ∧ n < 18446744073709551616 := by
  simp [InK, IntKind.min, IntKind.max, IntKind.signed, IntKind.bits] at h; omega
theorem InK.i64 {n : Int} (h : InK .i64 n) : -9223372036854775808 ≤ n ∧ n < 9223372036854775808 := by
  simp [InK, IntKind.min, IntKind.max, IntKind.signed, IntKind.bits] at h; omega
end Sx

/- Rows of one's own that nobody writes any more are told by value from here on. -/
set_option linter.unusedVariables false
set_option linter.unusedSimpArgs false
namespace Sx
open Go

def fzR (e h : Ents) : Row → Q Row
  | .avs s l => bnd (vw.vwL e h l) fun r => ret (.avs s r.1)
  | .ints k xs => ret (.ints k xs)
  | .strs ss => ret (.strs ss)
def fzN (e h : Ents) : Ent → Q Ent
  | .obj T v => bnd (vw e h v) fun r => ret (.obj T r.1)
  | .vec T r => bnd (fzR e h r) fun r' => ret (.vec T r')
  | .mset s => ret (.mset s)
/-- The one entry says more than the other. -/
def entSub : Ent → Ent → Prop
  | .obj T v, .obj T' v' => T = T' ∧ AV.sub v v'
  | x, y => x = y
def leF (e h : Ents) (t : Tms) : Tms → Prop
  | [] => True
  | (i, x) :: l => (x.isTup = false ∧ onQ (opt (lk t i) (vw e h)) (fun p => AV.sub p.1 x)) ∧ leF e h t l
def leFE (e h : Ents) : Ents → Prop
  | [] => True
  | (m, x) :: l => onQ (opt (lk e m) (fzN e h)) (fun y => entSub y x) ∧ leFE e h l
/-- The state s', in which the rows that are no entries any more are told by value. -/
def wkF (s s' : St) : Prop := s'.m = s.m ∧ leF s.e s'.e s.t s'.t ∧ leFE s.e s'.e s'.e ∧ nmE s'.n s'.e

theorem leF_get {e h : Ents} {t : Tms} : ∀ {l : Tms}, leF e h t l → ∀ i x, lk l i = some x → ∃ x0 x1 f, lk t i = some x0 ∧ Ok (vw e h x0) (x1, f) ∧ AV.sub x1 x ∧ x.isTup = false
  | [], _, i, x, hx => by cases hx
  | (k, y) :: l, hl, i, x, hx => by
    simp only [lk] at hx
    split at hx
    · next hq =>
      subst hq; cases hx
      obtain ⟨⟨h0, h1⟩, _⟩ := hl
      obtain ⟨⟨x', f⟩, h2, h3⟩ := onQ_spec h1
      obtain ⟨x0, h4, h5⟩ := h2.opt
      exact ⟨x0, x', f, h4, h5, h3, h0⟩
    · exact leF_get hl.2 i x hx
theorem leFE_get {e h : Ents} : ∀ {l : Ents}, leFE e h l → ∀ m x, lk l m = some x → ∃ x0 x1, lk e m = some x0 ∧ Ok (fzN e h x0) x1 ∧ entSub x1 x
  | [], _, i, x, hx => by cases hx
  | (k, y) :: l, hl, i, x, hx => by
    simp only [lk] at hx
    split at hx
    · next hq =>
      subst hq; cases hx
      obtain ⟨x', h2, h3⟩ := onQ_spec hl.1
      obtain ⟨x0, h4, h5⟩ := h2.opt
      exact ⟨x0, x', h4, h5, h3⟩
    · exact leFE_get hl.2 i x hx
theorem fzRow {ρ : Nat → Nat} {S S' : Nat → Prop} {w : World} {N : Nat → Prop} {e h : Ents} (hS : ∀ b, S b → S' b) (hE : ∀ nm x, lk e nm = some x → EntR ρ S w N (ρ nm) x) (hv : ∀ nm x, lk e nm = some x → lk h nm = none → S' (ρ nm)) {s : Nat} :
    ∀ {l l' : List AV} {f : Bool} {cs : List Value}, RowC ρ S w N (.avs s l) cs → Ok (vw.vwL e h l) (l', f) → RowC ρ S' w (Nm h) (.avs s l') cs
  | [], l', f, cs, hr, hk => by
    simp only [vw.vwL] at hk
    cases hk.ret
    cases hr; exact .nil
  | a :: l, l', f, cs, hr, hk => by
    simp only [vw.vwL] at hk
    obtain ⟨⟨a', f1⟩, h1, hk⟩ := hk.bnd
    obtain ⟨⟨l1, f2⟩, h2, hk⟩ := hk.bnd
    cases hk.ret
    cases hr with
    | cons r1 hz r2 => exact .cons (vw_sound (F := true) hS hE (fun _ => hv) a _ a' f1 r1 h1 (fun _ => rfl)).1 hz (fzRow hS hE hv r2 h2)

theorem At.freeze {G : Nat → Option AV} {C : Ctx} {st st' : St} {a : Act} {w : World} (hk : wkF st st') (ha : At G [] C st a w) : At G [] C st' a w := by
  obtain ⟨ρ, D, hg, hd, hD, hev⟩ := ha
  obtain ⟨km, kt, ke, kn⟩ := hk
  have ge := leFE_get ke
  have gt := leF_get kt
  have hS : ∀ b, Stab C.B ρ st.e w b → Stab C.B ρ st'.e w b := fun b hb => ⟨hb.1, hb.2.1, fun m x hm => by
    obtain ⟨x0, x1, h1, _⟩ := ge m x hm
    exact hb.2.2 m x0 h1⟩
  have hself : Evo (Stab C.B ρ st.e w) (Stab C.B ρ st'.e w) w w := ⟨fun b hb => ⟨hS b hb, rfl⟩, fun b n hb => hb⟩
  have hE : ∀ nm x, lk st.e nm = some x → EntR ρ (Stab C.B ρ st.e w) w D (ρ nm) x := fun nm x hx => (hg.mem.en nm x hx).2
  have hv : ∀ nm x, lk st.e nm = some x → lk st'.e nm = none → Stab C.B ρ st'.e w (ρ nm) := fun nm x hx hn => by
    refine ⟨?_, hg.mem.block_lt hx, fun m x' hm hq => ?_⟩
    · rcases hev.fresh nm x hx with ⟨m0, x0, h0, _⟩ | h
      · cases h0
      · exact C.big _ h
    · obtain ⟨x0, x1, h1, _⟩ := ge m x' hm
      have := hg.mem.inj _ _ _ _ h1 hx hq
      subst this
      rw [hm] at hn; cases hn
  refine ⟨ρ, Nm st'.e, ⟨⟨fun m x hm => ?_, fun m m' x x' hm hm' hq => ?_⟩, fun i x hi => ?_, hg.big, fun g x hx => (hg.gl g x hx).mono hself NoNm (fun _ h => h.elim)⟩, ⟨hd.1.stab hS, hd.2.trans km.symm⟩, fun n hn => ?_,
    ⟨fun b hb => ⟨hS b (hev.evo.stable b hb).1, (hev.evo.stable b hb).2⟩, hev.evo.sized⟩, fun n hn => (by cases hn), fun m x hm => ?_, hev.size, hev.os, hev.out, hev.tape, hev.others⟩
  · refine ⟨by simp [Nm, hm], ?_⟩
    obtain ⟨x0, x1, h1, h2, hsub⟩ := ge m x hm
    have h3 := hE m x0 h1
    cases h3 with
    | obj hr hb =>
      simp only [fzN] at h2
      obtain ⟨⟨v', f⟩, h4, h5⟩ := h2.bnd
      cases h5.ret
      cases x with
      | vec => simp only [entSub, reduceCtorEq] at hsub
      | mset => simp only [entSub, reduceCtorEq] at hsub
      | obj T' w' =>
        obtain ⟨rfl, hs⟩ := hsub
        exact .obj (RC.sub _ _ _ (vw_sound (F := true) hS hE (fun _ => hv) _ _ _ f hr h4 (fun _ => rfl)).1 hs) hb
    | mset hs hb =>
      simp only [fzN] at h2
      cases h2.ret
      rename_i s0 es0 clock0
      have hx : x = .mset s0 := by cases x <;> simp only [entSub, reduceCtorEq] at hsub; exact hsub.symm
      subst hx
      exact .mset hs hb
    | vec hr hb hc =>
      simp only [fzN] at h2
      obtain ⟨r', h4, h5⟩ := h2.bnd
      cases h5.ret
      rename_i T r cs c
      have hx : x = .vec T r' := by cases x <;> simp only [entSub, reduceCtorEq] at hsub; exact hsub.symm
      subst hx
      refine .vec ?_ hb hc
      cases r with
      | ints k xs => simp only [fzR] at h4; cases h4.ret; cases hr; exact .ints
      | strs ss => simp only [fzR] at h4; cases h4.ret; cases hr; exact .strs
      | avs s l =>
        simp only [fzR] at h4
        obtain ⟨⟨l', f⟩, h6, h7⟩ := h4.bnd
        cases h7.ret
        exact fzRow hS hE hv hr h6
  · obtain ⟨x0, x1, h1, _⟩ := ge m x hm
    obtain ⟨x0', x1', h1', _⟩ := ge m' x' hm'
    exact hg.mem.inj _ _ _ _ h1 h1' hq
  · obtain ⟨x0, x1, f, h1, h2, hsub, h3⟩ := gt i x hi
    obtain ⟨v, h4, h5⟩ := hg.tm i x0 h1
    refine ⟨v, h4, RV.sub ?_ hsub⟩
    have h3 : x1.isTup = false := by
      cases x1 <;> first | rfl | (rw [AV.sub_tup hsub] at h3; cases h3)
    cases h5 with
    | one hr =>
      obtain ⟨h6, h7⟩ := vw_sound (F := true) hS hE (fun _ => hv) _ _ _ f hr h2 (fun _ => rfl)
      rename_i cs
      have : shape x0 cs = shape x1 cs := by simp only [shape, h7]
      rw [this]
      exact .one h6
    | tup hl hh =>
      simp only [vw] at h2
      cases h2.req.2.ret
      cases h3
  · obtain ⟨x, hx⟩ := Option.isSome_iff_exists.1 hn
    exact (nmE_get kn n x hx).1
  · obtain ⟨x0, x1, h1, _⟩ := ge m x hm
    exact hev.fresh m x0 h1

theorem W.freeze {ro : Option Nat} {P : Program} {G : Nat → Option AV} {c : Code} {st : St} {Q : Exit → St → Prop} (st' : St) (hk : wkF st st') (hw : W ro P G [] c st' Q) : W ro P G [] c st Q :=
  fun C a w ha => hw C a w (ha.freeze hk)
/-- A loop each of whose rounds may tell rows by value. -/
theorem W.loopF {ro : Option Nat} {P : Program} {G : Nat → Option AV} {ι : Type} {c : Code} {st : St} {Q : Exit → St → Prop} (p : ι → Prop) (I : ι → St) (μ : ι → Nat) (i0 : ι) (hp : p i0) (h0 : wkF st (I i0))
    (round : ∀ i, p i → ∀ K : St → Prop, (∀ s j, p j → μ j < μ i → wkF s (I j) → K s) → W ro P G [] c (I i) (thn K Q)) : W ro P G [] (.loop c) st Q := by
  intro C act w ha
  refine wpIn_loop_ghost (fun n a w => ∃ i, p i ∧ μ i = n ∧ At G [] C (I i) a w) (μ i0) ⟨i0, hp, rfl, ha.freeze h0⟩ ?_
  rintro n a' w' ⟨i, hpi, rfl, hi⟩
  refine wpIn_mono (round i hpi (fun s => ∃ j, p j ∧ μ j < μ i ∧ wkF s (I j)) (fun s j h1 h2 h3 => ⟨j, h1, h2, h3⟩) C a' w' hi) ?_
  rintro z a'' w'' ⟨s, h1, h2⟩
  cases z with
  | normal =>
    obtain ⟨j, k1, k2, k3⟩ := h1
    exact ⟨μ j, k2, j, k1, rfl, h2.freeze k3⟩
  | _ => exact ⟨s, h1, h2⟩
/-- Arms that come to one state, rows told by value. -/
theorem W.joinF {ro : Option Nat} {P : Program} {G : Nat → Option AV} {x y : Code} {st : St} {Q : Exit → St → Prop} (st' : St) (hx : ∀ K : St → Prop, (∀ s, wkF s st' → K s) → W ro P G [] x st (thn K Q)) (hy : W ro P G [] y st' Q) : W ro P G [] (.seq x y) st Q :=
  W.seqK fun K hK => hx K fun s hs => hK s (W.freeze st' hs hy)
end Sx

/- Sizes of the arguments, from what the statement's reader says of them. -/
set_option linter.unusedVariables false
set_option linter.unusedSimpArgs false
namespace Sx
open Go

section
variable {H : Type} {enc : TypeId × Value → H} {P : Program} {W : World} {ρ : Nat → Nat} {S : Nat → Prop}

theorem weightsAll_mem {e : TypeId} {B : Nat} : ∀ {l : List (DataW H)}, (DataW.weightsAll P e l).all (· ≤ B) = true → ∀ d ∈ l, (d.weights P e).all (· ≤ B) = true
  | [], _, d, hd => by cases hd
  | x :: l, h, d, hd => by
    rw [DataW.weightsAll, List.all_append, Bool.and_eq_true] at h
    rcases List.mem_cons.1 hd with rfl | hd
    · exact h.1
    · exact weightsAll_mem h.2 d hd

theorem slice_le {t e : TypeId} {B : Nat} {l r : List (DataW H)} (hu : P.underlying t = some (.slice e)) (hb : 1 ≤ P.bytesOf e) (h : ((DataW.slice l r).weights P t).all (· ≤ B) = true) :
    l.length ≤ B ∧ (DataW.weightsAll P e l).all (· ≤ B) = true := by
  simp only [DataW.weights, hu, List.all_cons, List.all_append, Bool.and_eq_true, decide_eq_true_eq] at h
  refine ⟨?_, h.2.1⟩
  have : l.length * 1 ≤ (l.length + r.length) * P.bytesOf e := Nat.mul_le_mul (by omega) hb
  omega

/-- The lengths of a list of rows. -/
theorem rows_le {t e1 e2 : TypeId} {k : IntKind} {B : Nat} {cs : List (List Int)} {v : Value} {d : DataW H} {p : List MemPlace} {sp : Nat → Bool} {held : Bool} {fuel : Nat} {N : Nat → Prop}
    (hu1 : P.underlying t = some (.slice e1)) (hu2 : P.underlying e1 = some (.slice e2)) (hc1 : P.cellsOf e1 = 1) (hb1 : 1 ≤ P.bytesOf e1) (hb2 : 1 ≤ P.bytesOf e2)
    (hv : RV ρ S W N (.lst 1 (cs.map (.lstI k))) v) (ht : DataW.trod enc P W 0 sp held fuel t v.cells.toList = some (d, p)) (hw : (d.weights P t).all (· ≤ B) = true) :
    cs.length ≤ B ∧ ∀ c ∈ cs, c.length ≤ B := by
  cases hv with
  | one hr =>
    rename_i cl
    cases hr with
    | lst vs hl hm hr hc =>
      rename_i a cap
      have e0 : (shape (.lst 1 (cs.map (AV.lstI k))) [.slice a (cs.map (AV.lstI k)).length cap]).cells.toList = [.slice a (cs.map (AV.lstI k)).length cap] := rfl
      rw [e0] at ht
      rcases DataW.trod_slice hu1 ht with ⟨he, _⟩ | ⟨a', len, cap', elems, rest, q, rfl, he, hx, _, _, _, hel, hget, _, _⟩
      · simp only [List.cons.injEq, Value.slice.injEq, List.length_map, and_true] at he
        have h0 : cs = [] := List.length_eq_zero_iff.1 he.2.1
        subst h0
        exact ⟨by simp, fun c h => by cases h⟩
      · simp only [List.cons.injEq, Value.slice.injEq, List.length_map, and_true] at he
        obtain ⟨ha, hlen, _⟩ := he
        subst ha
        have hd : d = .slice (elems.map (·.1)) (rest.map (·.1)) := congrArg Prod.fst hx
        subst hd
        obtain ⟨h1, h2⟩ := slice_le hu1 hb1 hw
        rw [List.length_map] at h1
        refine ⟨by omega, fun c hcm => ?_⟩
        obtain ⟨i, hi⟩ := List.getElem?_of_mem hcm
        have hil := (List.getElem?_eq_some_iff.1 hi).1
        have hmi : (cs.map (AV.lstI k))[i]? = some (.lstI k c) := by rw [List.getElem?_map, hi]; rfl
        have r1 := hr i _ hmi
        obtain ⟨hvl, b, o, hab, _, hcell⟩ := hc i _ hmi
        have hg := hget i (by omega)
        have hei : elems[i]? = some (elems[i]'(by omega)) := List.getElem?_eq_getElem (by omega)
        rw [hei, Option.bind_eq_some_iff] at hg
        obtain ⟨cs', hcs, htr⟩ := hg
        obtain ⟨g1, g2⟩ := cells_get hcs
        have hmem : (elems[i]'(by omega)).1 ∈ elems.map (·.1) := List.mem_map.2 ⟨_, List.getElem_mem _, rfl⟩
        have hwi := weightsAll_mem h2 _ hmem
        generalize elems[i]'(by omega) = y at *
        generalize hvi : vs i = u at *
        cases r1 with
        | lstI hl2 hm2 hc2 =>
          rename_i a2 cap2
          have k1 := hcell 0 _ rfl
          cases hab
          rw [hc1] at g1 g2
          obtain ⟨z, rfl⟩ : ∃ z, cs' = [z] := by
            match cs', g1 with
            | [z], _ => exact ⟨z, rfl⟩
          have k2 := (g2 0 z rfl).1
          have k3 : z = .slice a2 c.length cap2 := by
            rw [show o + i * 1 + 0 = (⟨b, o, none⟩ : Addr).off + i * 1 + 0 from rfl] at k1
            exact Option.some.inj (k2.symm.trans k1)
          subst k3
          obtain ⟨d2, p2⟩ := y
          rcases DataW.trod_slice hu2 htr with ⟨he2, _⟩ | ⟨a3, len3, cap3, elems3, rest3, q3, _, he3, hx3, _, _, _, hel3, _, _, _⟩
          · simp only [List.cons.injEq, Value.slice.injEq, and_true] at he2
            omega
          · simp only [List.cons.injEq, Value.slice.injEq, and_true] at he3
            have hd3 : d2 = .slice (elems3.map (·.1)) (rest3.map (·.1)) := congrArg Prod.fst hx3
            subst hd3
            have := (slice_le hu2 hb2 hwi).1
            rw [List.length_map] at this
            omega

theorem lawPostS {f : Func} {F : FuncId} {s : ChangeSpec} {args : Array Value} {ds gs : List (DataW H)} {before : List MemPlace} {apart : Bool} {tb : TypeId} {shs : List Sh} {n : Nat} {G : Nat → Option AV}
    (hl : laidOutB P = true) (hty : f.params.toList.all (fun t => P.readableRec t && decide (t < P.types.size)) = true)
    (hres : f.resultTypes = #[tb]) (hub : P.underlying tb = some .bool) (hvars : s.vars = [])
    (hs : (s.fn H (ds ++ gs)).results = [.lit (.bool true)] ∧ (s.fn H (ds ++ gs)).args = ds ∧ (s.fn H (ds ++ gs)).vars = [])
    (hval : ∀ (j : Nat) t v, f.params[j]? = some t → args[j]? = some v → Value.okWide P W .any 0 t v)
    (hW : DataW.Whole enc P f.params.toList s.vars apart W args.toList ds gs before)
    (hsh : f.params.toList.mapM (shOf P n) = some shs)
    (hG : GL G id (fun b => b < W.heap.size) W)
    (hF : ∀ avs, OpnAs P f.params.toList shs avs → (∀ (i : Nat) x, avs[i]? = some x → ∃ v, args.toList[i]? = some v ∧ RV id (fun b => b < W.heap.size) W NoNm x v) → FnR P G F avs [] (.bool true) []) :
    Calls P F args W fun e W' => ∃ v, e = .returned v ∧ s.post enc P f apart true false false W args v W' := by
  have hW' := hW
  obtain ⟨p, q, hA, hV, hpq, _, _⟩ := hW
  have hlt : ∀ x ∈ before, x.block < W.heap.size := fun x hx => by simpa using hW'.lt x hx
  have hSt : ∀ b, Stab (fun _ => True) id [] W b ↔ b < W.heap.size := fun b => ⟨fun h => h.2.1, fun h => ⟨trivial, h, fun m x hx => by simp [lk] at hx⟩⟩
  have hSt' : Stab (fun _ => True) id [] W = fun b => b < W.heap.size := funext fun b => propext (hSt b)
  obtain ⟨avs, h1, h2, h3⟩ := open_args (ρ := id) (S := fun b => b < W.heap.size) (fun b hb => hb) f.params.toList shs args.toList ds p hsh hA (fun j t v hj hv => hval j t v (by simpa using hj) (by simpa using hv))
  have hmem : Mem (fun _ => True) id (Nm []) [] W := ⟨fun m x hx => by simp [lk] at hx, fun m m' x x' hx => by simp [lk] at hx⟩
  have hc := hF avs h1 h3 (fun _ => True) id W args.toList (fun _ _ => trivial) hmem (by rw [hSt']; exact hG) h2 (fun i x hx => by
    obtain ⟨v, k1, k2⟩ := h3 i x hx
    refine ⟨v, k1, ?_⟩
    rw [hSt']
    exact k2.mono (Evo.refl W) (fun n hn => hn.elim))
  rw [Array.toArray_toList] at hc
  refine hc.mono fun e W' hq => ?_
  obtain ⟨x, ρ', rfl, hr, _, hk⟩ := hq
  have hb : RowKit.Below W.heap.size W W' := ⟨hk.os, hk.tape, hk.out, hk.size, fun k hk' => hk.others k hk' (fun m x hx => by simp [lk] at hx)⟩
  cases hr with
  | one hr =>
    cases hr
    refine ⟨_, rfl, ds, gs, before, [], p, [], hW', ?_, ?_, ?_, hb.frame _, fun h => by cases h⟩
    · rw [hs.1, hres]
      exact ChangeShapes.trodAll_mk1 (RowKit.shut_bool hub true)
    · rw [hs.2.1]
      have go : ∀ (ts : List TypeId) (vs : List Value) (ds : List (DataW H)) (ps : List MemPlace), ts.all (fun t => P.readableRec t && decide (t < P.types.size)) = true → (∀ x ∈ ps, x.block < W.heap.size) →
          DataW.TrodAll enc P W 0 (fun _ => true) true ts vs ds ps → DataW.TrodAll enc P W' 0 (fun b => decide (b < W.heap.size)) true ts vs ds ps := by
        intro ts
        induction ts with
        | nil => intro vs ds ps _ _ h; cases vs <;> cases ds <;> simp_all [DataW.TrodAll]
        | cons t ts ih =>
          intro vs ds ps ht hp h
          match vs, ds, h with
          | v :: vs, d :: ds, h =>
            obtain ⟨a, b, h1, h2, rfl⟩ := h
            simp only [List.all_cons, Bool.and_eq_true, decide_eq_true_eq] at ht
            exact ⟨a, b, RowKit.Below.trod hl ht.1.1 ht.1.2 h1 hb (fun x hx => hp x (by simp [hx])), ih vs ds b (by simpa using ht.2) (fun x hx => hp x (by simp [hx])) h2, rfl⟩
      refine go _ _ _ _ hty (fun x hx => hlt x ?_) hA
      rw [hpq]; simp [hx]
    · rw [hs.2.2, hvars]
      exact rfl
end
end Sx

/- More on contracts. -/
set_option linter.unusedVariables false
set_option linter.unusedSimpArgs false
namespace Sx
open Go

/-- The result may be taken for another one. -/
theorem FnR.subR {P : Program} {G : Nat → Option AV} {f : FuncId} {args : List AV} {h h' : Ents} {r r' : AV} (hF : FnR P G f args h r h') (hs : AV.sub r r') : FnR P G f args h r' h' := by
  intro B ρ w vs hb hm hg hl ha
  refine (hF B ρ w vs hb hm hg hl ha).mono ?_
  rintro e w' ⟨x, ρ', h1, h2, h3⟩
  exact ⟨x, ρ', h1, h2.sub hs, h3⟩
/-- Of several results each may be taken for another one. -/
theorem FnR.subT {P : Program} {G : Nat → Option AV} {f : FuncId} {args : List AV} {h h' : Ents} {l l' : List AV} (hF : FnR P G f args h (.tup l) h') (hs : AV.subL l l') : FnR P G f args h (.tup l') h' := by
  intro B ρ w vs hb hm hg hl ha
  refine (hF B ρ w vs hb hm hg hl ha).mono ?_
  rintro e w' ⟨x, ρ', h1, h2, h3⟩
  refine ⟨x, ρ', h1, ?_, h3⟩
  obtain ⟨k1, k2⟩ := AV.subL_get hs
  cases h2 with
  | one h => cases h
  | tup hl h =>
    refine .tup (hl.trans k1) (fun i y hy => ?_)
    obtain ⟨x, hx, hxy⟩ := k2 i y hy
    obtain ⟨cs, h4, h5⟩ := h i x hx
    exact ⟨cs, RC.sub _ _ _ h4 hxy, by rw [h5]; simp only [shape, AV.sub_agg hxy]⟩
/-! Small literals. -/
theorem litF1 {a : AV} : (List.replicate 1 [a]).flatten = [a] := rfl
theorem lit1 {α : Type} {a : α} : List.replicate 1 a = [a] := rfl
theorem litF2 {a : AV} : (List.replicate 2 [a]).flatten = [a, a] := rfl
theorem lit2 {α : Type} {a : α} : List.replicate 2 a = [a, a] := rfl
theorem litF3 {a : AV} : (List.replicate 3 [a]).flatten = [a, a, a] := rfl
theorem lit3 {α : Type} {a : α} : List.replicate 3 a = [a, a, a] := rfl
theorem litF4 {a : AV} : (List.replicate 4 [a]).flatten = [a, a, a, a] := rfl
theorem lit4 {α : Type} {a : α} : List.replicate 4 a = [a, a, a, a] := rfl
theorem litF5 {a : AV} : (List.replicate 5 [a]).flatten = [a, a, a, a, a] := rfl
theorem lit5 {α : Type} {a : α} : List.replicate 5 a = [a, a, a, a, a] := rfl
theorem litF6 {a : AV} : (List.replicate 6 [a]).flatten = [a, a, a, a, a, a] := rfl
theorem lit6 {α : Type} {a : α} : List.replicate 6 a = [a, a, a, a, a, a] := rfl
theorem litF7 {a : AV} : (List.replicate 7 [a]).flatten = [a, a, a, a, a, a, a] := rfl
theorem lit7 {α : Type} {a : α} : List.replicate 7 a = [a, a, a, a, a, a, a] := rfl
theorem litF8 {a : AV} : (List.replicate 8 [a]).flatten = [a, a, a, a, a, a, a, a] := rfl
theorem lit8 {α : Type} {a : α} : List.replicate 8 a = [a, a, a, a, a, a, a, a] := rfl
end Sx

/- Less of a row may be told. -/
set_option linter.unusedVariables false
set_option linter.unusedSimpArgs false
namespace Sx
open Go

/-- The one entry's row begins with the other's. -/
def Ent.pre : Ent → Ent → Prop
  | .vec T (.avs s l), .vec T' (.avs s' l') => T = T' ∧ s = s' ∧ ∃ t, l = l' ++ t
  | .vec T (.ints k l), .vec T' (.ints k' l') => T = T' ∧ k = k' ∧ ∃ t, l = l' ++ t
  | .vec T (.strs l), .vec T' (.strs l') => T = T' ∧ ∃ t, l = l' ++ t
  | x, y => x = y
theorem Ent.pre_refl (x : Ent) : x.pre x := by
  match x with
  | .obj _ _ => rfl
  | .vec _ (.avs _ _) => exact ⟨rfl, rfl, [], by simp⟩
  | .vec _ (.ints _ _) => exact ⟨rfl, rfl, [], by simp⟩
  | .vec _ (.strs _) => exact ⟨rfl, [], by simp⟩
  | .mset _ => rfl
theorem EntR.pre {ρ : Nat → Nat} {S : Nat → Prop} {w : World} {N : Nat → Prop} {b : Nat} {x y : Ent} (h : EntR ρ S w N b x) (hp : x.pre y) : EntR ρ S w N b y := by
  cases h with
  | obj hr hb =>
    cases y <;> simp only [Ent.pre] at hp <;> first | (cases hp; exact .obj hr hb) | (cases hp)
  | mset hs hb => cases y <;> simp only [Ent.pre] at hp <;> first | (cases hp; exact .mset hs hb) | (cases hp)
  | vec hr hb hc =>
    rename_i T r cs c
    have key : ∀ n, ∃ cs', RowC ρ S w N (r.take n) cs' ∧ c.toList.take cs'.length = cs' := fun n => by
      refine ⟨cs.take (n * r.sz), hr.take n, ?_⟩
      rw [List.length_take]
      conv => rhs; rw [← hc, List.take_take]
    cases r <;> cases y <;> (try (simp only [Ent.pre] at hp; cases hp; done))
    all_goals
      rename_i T' r'
      cases r' <;> simp only [Ent.pre] at hp <;> first | (cases hp; done) | skip
    · obtain ⟨rfl, rfl, t, rfl⟩ := hp
      rename_i l'
      obtain ⟨cs', h1, h2⟩ := key l'.length
      rw [Row.take, List.take_left'  rfl] at h1
      exact .vec h1 hb h2
    · obtain ⟨rfl, t, rfl⟩ := hp
      rename_i l'
      obtain ⟨cs', h1, h2⟩ := key l'.length
      rw [Row.take, List.take_left' rfl] at h1
      exact .vec h1 hb h2
    · obtain ⟨rfl, rfl, t, rfl⟩ := hp
      rename_i l'
      obtain ⟨cs', h1, h2⟩ := key l'.length
      rw [Row.take, List.take_left' rfl] at h1
      exact .vec h1 hb h2
/-- Of each entry less. -/
def preL : Ents → Ents → Prop
  | [], [] => True
  | (m, x) :: l, (m', x') :: l' => m = m' ∧ x.pre x' ∧ preL l l'
  | _, _ => False
theorem preL_get : ∀ {e e' : Ents}, preL e e' → ∀ m, (lk e' m).isSome = (lk e m).isSome ∧ ∀ x', lk e' m = some x' → ∃ x, lk e m = some x ∧ x.pre x'
  | [], [], _, m => ⟨rfl, fun x h => by cases h⟩
  | (k, x) :: l, (k', x') :: l', h, m => by
    obtain ⟨rfl, h1, h2⟩ := h
    simp only [lk]
    by_cases hq : k = m
    · rw [if_pos hq, if_pos hq]
      exact ⟨rfl, fun y hy => by cases hy; exact ⟨x, rfl, h1⟩⟩
    · rw [if_neg hq, if_neg hq]; exact preL_get h2 m
  | [], _ :: _, h, _ => h.elim
  | _ :: _, [], h, _ => h.elim
theorem FnR.pre {P : Program} {G : Nat → Option AV} {f : FuncId} {args : List AV} {h h' h2 : Ents} {r : AV} (hF : FnR P G f args h r h') (hp : preL h' h2) : FnR P G f args h r h2 := by
  intro B ρ w vs hb hm hg hl ha
  refine (hF B ρ w vs hb hm hg hl ha).mono ?_
  rintro e w' ⟨x, ρ', h1, h3, h4, h5⟩
  have hN : Nm h2 = Nm h' := by
    funext m; unfold Nm; rw [(preL_get hp m).1]
  have hS : Stab B ρ' h2 w' = Stab B ρ' h' w' := by
    funext b
    apply propext
    constructor
    · rintro ⟨k1, k2, k3⟩
      refine ⟨k1, k2, fun m y hy => ?_⟩
      have : (lk h2 m).isSome = true := by rw [(preL_get hp m).1, hy]; rfl
      obtain ⟨z, hz⟩ := Option.isSome_iff_exists.1 this
      exact k3 m z hz
    · rintro ⟨k1, k2, k3⟩
      refine ⟨k1, k2, fun m y hy => ?_⟩
      obtain ⟨z, hz, _⟩ := (preL_get hp m).2 y hy
      exact k3 m z hz
  refine ⟨x, ρ', h1, by rw [hS, hN]; exact h3, ⟨fun m y hy => ?_, fun m m' y y' hy hy' hq => ?_⟩, ⟨by rw [hS]; exact h5.evo, fun n k1 k2 => h5.agree n k1 (by rw [← hN]; exact k2), fun m y hy => ?_, h5.size, h5.os, h5.out, h5.tape, h5.others⟩⟩
  · obtain ⟨z, hz, hpz⟩ := (preL_get hp m).2 y hy
    rw [hS, hN]
    exact ⟨(h4.en m z hz).1, (h4.en m z hz).2.pre hpz⟩
  · obtain ⟨z, hz, _⟩ := (preL_get hp m).2 y hy
    obtain ⟨z', hz', _⟩ := (preL_get hp m').2 y' hy'
    exact h4.inj m m' z z' hz hz' hq
  · obtain ⟨z, hz, _⟩ := (preL_get hp m).2 y hy
    exact h5.fresh m z hz
end Sx

/- A slot's value may be taken for another one. -/
set_option linter.unusedVariables false
set_option linter.unusedSimpArgs false
namespace Sx
open Go

theorem W.sub {ro : Option Nat} {P : Program} {G : Nat → Option AV} {h : Ents} {c : Code} {st : St} {Q : Exit → St → Prop} (i : Nat) (x : AV) {y : AV} (hl : lk st.t i = some y) (hs : AV.sub y x)
    (hw : W ro P G h c ⟨(i, x) :: st.t, st.e, st.n, st.m⟩ Q) : W ro P G h c st Q := by
  intro C a w ha
  refine hw C a w ?_
  obtain ⟨ρ, D, hg, hd, hD, hev⟩ := ha
  refine ⟨ρ, D, ⟨hg.mem, fun j z hj => ?_, hg.big, hg.gl⟩, hd, hD, hev⟩
  simp only [lk] at hj
  split at hj
  · next hij =>
    subst hij
    cases hj
    obtain ⟨v, h1, h2⟩ := hg.tm _ _ hl
    exact ⟨v, h1, h2.sub hs⟩
  · exact hg.tm j z hj
/-- Arms that go on alike from one of some states, two names exchanged. -/
theorem W.joinS {ro : Option Nat} {P : Program} {G : Nat → Option AV} {h : Ents} {x y : Code} {st : St} {Q : Exit → St → Prop} (st' : St)
    (hx : ∀ K : St → Prop, (∀ s a b, (¬ Nm h a ∧ ¬ Nm h b) ∧ a < s.n ∧ b < s.n → wk h (s.swap a b) st' → K s) → W ro P G h x st (thn K Q)) (hy : W ro P G h y st' Q) : W ro P G h (.seq x y) st Q :=
  W.seqK fun K hK => hx K fun s a b hn hs => hK s (W.swap a b hn (W.weak st' hs hy))
end Sx

/- A range over a function, one loop variable, none of whose rounds leaves the loop. -/
set_option linter.unusedVariables false
set_option linter.unusedSimpArgs false
namespace Sx
open Go

/-- What is told with no name at all hangs on stable blocks alone. -/
theorem RC.still {ρ ρ' : Nat → Nat} {S S' : Nat → Prop} {w w' : World} {N : Nat → Prop} {a : AV} {cs : List Value} (h : RC ρ S w N a cs) (hN : ∀ n, ¬ N n) (he : ∀ b, S b → S' b ∧ w'.heap[b]? = w.heap[b]?) (N' : Nat → Prop) : RC ρ' S' w' N' a cs := by
  have hc' : ∀ {b o : Nat}, S b → w'.cell? ⟨b, o, none⟩ = w.cell? ⟨b, o, none⟩ := fun hb => by simp [World.cell?, (he _ hb).2]
  induction h generalizing N' with
  | int => exact .int
  | bool => exact .bool
  | str => exact .str
  | ints h => exact .ints h
  | nil => exact .nil
  | cons _ _ ih1 ih2 => exact .cons (ih1 hN N') (ih2 hN N')
  | ptr h => exact absurd h (hN _)
  | pel _ hs hc ih => exact .pel (ih (fun _ h => h.elim) NoNm) (he _ hs).1 (fun j u hj => (hc' hs).trans (hc j u hj))
  | sl h ha hl hm hb hc => exact absurd h (hN _)
  | nils => exact .nils
  | nilp => exact .nilp
  | nilf => exact .nilf
  | nili => exact .nili
  | nilm => exact .nilm
  | lstI hl hm hc => exact .lstI hl hm (fun i x hi => let ⟨b, o, h1, h2, h3⟩ := hc i x hi; ⟨b, o, h1, (he b h2).1, (hc' h2).trans h3⟩)
  | lstS hl hm hc => exact .lstS hl hm (fun i x hi => let ⟨b, o, h1, h2, h3⟩ := hc i x hi; ⟨b, o, h1, (he b h2).1, (hc' h2).trans h3⟩)
  | lst vs hl hm _ hc ih =>
    exact .lst vs hl hm (fun i x hi => ih i x hi (fun _ h => h.elim) NoNm)
      (fun i x hi => let ⟨h0, b, o, h1, h2, h3⟩ := hc i x hi; ⟨h0, b, o, h1, (he b h2).1, fun j u hj => (hc' h2).trans (h3 j u hj)⟩)
  | fn vs _ hne ih => exact .fn vs (fun i x hi => ih i x hi hN N') hne
  | fnb vs _ ih => exact .fnb vs (fun i x hi => ih i x hi hN N')
  | ifc _ ih => exact .ifc (ih hN N')
  | mp h => exact absurd h (hN _)
  | unk h h2 => exact .unk h h2
theorem RV.still {ρ ρ' : Nat → Nat} {S S' : Nat → Prop} {w w' : World} {a : AV} {v : Value} (h : RV ρ S w NoNm a v) (he : ∀ b, S b → S' b ∧ w'.heap[b]? = w.heap[b]?) (N' : Nat → Prop) : RV ρ' S' w' N' a v := by
  cases h with
  | one h => exact .one (h.still (fun _ h => h) he N')
  | tup hl h => exact .tup hl (fun i x hi => let ⟨cs, h1, h2⟩ := h i x hi; ⟨cs, h1.still (fun _ h => h) he N', h2⟩)

/-- What an iterator gives, one by one, to rounds that all go on. -/
def IterR (P : Program) (f : FuncId) (cap : List AV) (xs : List AV) : Prop :=
  ∀ (S : Nat → Prop) (w : World) (lb : List Value) (ρ : Nat → Nat), lb.length = cap.length → (∀ (i : Nat) x, cap[i]? = some x → ∃ v, lb[i]? = some v ∧ RV ρ S w NoNm x v) →
    ∃ vs : List Value, vs.length = xs.length ∧ (∀ (i : Nat) x, xs[i]? = some x → ∃ v, vs[i]? = some v ∧ RV ρ S w NoNm x v) ∧
      ∀ (l : Nat) (J : Nat → World → Prop) (W : World), (∀ k W, J k W → ∀ b, S b → W.heap[b]? = w.heap[b]?) → (∀ k W, J k W → J k { W with drawn := W.drawn + 1 }) →
        (∀ k v W, vs[k]? = some v → J k W → YieldAt Fence.wide 0 P l #[v] W (fun e W' => e = .returned (.bool true) ∧ J (k + 1) W')) → J 0 W →
        CallsIn Fence.wide 0 P f (#[.func (.yield l) #[] #[]] ++ lb.toArray) W (fun e W' => (∃ v, e = .returned v) ∧ J vs.length W')

section
variable {P : Program} {G : Nat → Option AV}

/-- The round's own view of the state. -/
theorem At.inner {C : Ctx} {t0 : Tms} {e : Ents} {n m : Nat} {tmps : Array Value} {ds : List Deferred} {w : World} (ha : At G [] C ⟨t0, e, n, m⟩ ⟨tmps, ds⟩ w)
    (ht : ∀ i x, lk t0 i = some x → x.nmIn (Nm e)) (he : entsIn (Nm e) e) (hn : nmH n e) :
    ∃ C3 : Ctx, C3.sp = C.sp ∧ At G e C3 ⟨t0, e, n, m⟩ ⟨tmps, []⟩ w ∧ (∀ s a' w', At G e C3 s a' w' → At G [] C ⟨t0, s.e, s.n, m⟩ ⟨tmps, ds⟩ w') := by
  obtain ⟨ρ, D, hg, hd, hD, hev⟩ := ha
  have hself : Evo (Stab C.B ρ e w) (Stab C.B ρ e w) w w := Evo.refl w
  have hmem : Mem C.B ρ (Nm e) e w := ⟨fun m x hm => ⟨by simp [Nm, hm], (hg.mem.en m x hm).2.restrict (entsIn_get he m x hm)⟩, hg.mem.inj⟩
  have htm : ∀ i x, lk t0 i = some x → ∃ v, tmps[i]? = some v ∧ RV ρ (Stab C.B ρ e w) w (Nm e) x v := fun i x hi => by
    obtain ⟨v, h1, h2⟩ := hg.tm i x hi
    exact ⟨v, h1, h2.restrict (ht i x hi)⟩
  refine ⟨⟨C.B, ρ, w, hg.big, C.sp, []⟩, rfl, ⟨ρ, Nm e, ⟨hmem, htm, hg.big, hg.gl⟩, ⟨⟨hd.1.1, [], rfl, .nil, fun b hb => (by cases hb)⟩, hd.2⟩, nmH_get hn, Evol.refl w⟩, ?_⟩
  intro s a' w' hs
  obtain ⟨ρ', D', hg', hd', hD', hev'⟩ := hs
  have hev0 : Evol C.B C.ρ (Nm []) [] C.w ρ (Nm e) e w := ⟨hev.evo, fun n hn => (by cases hn), hev.fresh, hev.size, hev.os, hev.out, hev.tape, hev.others⟩
  refine ⟨ρ', D', ⟨hg'.mem, fun i x hi => ?_, hg'.big, hg'.gl⟩, ⟨?_, hd.2⟩, hD', hev0.trans hev'⟩
  · obtain ⟨v, h1, h2⟩ := htm i x hi
    exact ⟨v, h1, h2.mono hev'.evo hev'.agree⟩
  · exact ⟨hd'.1.1, (hd.1.mono hev'.evo).2⟩

/-- A new block of book-keeping. -/
theorem At.alloc {h : Ents} {C : Ctx} {st : St} {a : Act} {w : World} (ha : At G h C st a w) (o : Obj) : At G h ⟨C.B, C.ρ, C.w, C.big, fun b o' => C.sp b o' ∨ (b = w.heap.size ∧ o' = o), C.tail⟩ st a (w.alloc o) := by
  obtain ⟨ρ, D, hg, hd, hD, hev⟩ := ha
  obtain ⟨h1, h2, h3⟩ := hg.mem.allocStable (hg.big _ (Nat.le_refl _)) o
  refine ⟨ρ, D, ⟨h1, fun i x hi => ?_, fun b hb => hg.big b (Nat.le_trans h2.size hb), fun g y hy => (hg.gl g y hy).mono h2.evo NoNm (fun _ h => h.elim)⟩, ⟨?_, hd.2⟩, hD, hev.trans h2⟩
  · obtain ⟨v, k1, k2⟩ := hg.tm i x hi
    exact ⟨v, k1, k2.mono h2.evo h2.agree⟩
  · have := hd.1.mono h2.evo
    refine ⟨fun b o' hb => ?_, this.2⟩
    rcases hb with hb | ⟨rfl, rfl⟩
    · exact this.1 b o' hb
    · exact ⟨h3, alloc_new w _⟩
theorem At.sps {h : Ents} {C : Ctx} {sp' : Nat → Obj → Prop} {st : St} {a : Act} {w : World} (ha : At G h C st a w) (hs : ∀ b o, sp' b o → C.sp b o) : At G h ⟨C.B, C.ρ, C.w, C.big, sp', C.tail⟩ st a w := by
  obtain ⟨ρ, D, hg, hd, hD, hev⟩ := ha
  exact ⟨ρ, D, hg, ⟨⟨fun b o hb => hd.1.1 b o (hs b o hb), hd.1.2⟩, hd.2⟩, hD, hev⟩
theorem At.sp_get {h : Ents} {C : Ctx} {st : St} {a : Act} {w : World} (ha : At G h C st a w) {b : Nat} {o : Obj} (hb : C.sp b o) : w.heap[b]? = some o := by
  obtain ⟨ρ, D, hg, hd, hD, hev⟩ := ha
  exact (hd.1.1 b o hb).2
theorem At.drew {h : Ents} {C : Ctx} {st : St} {a : Act} {w : World} (ha : At G h C st a w) : At G h C st a { w with drawn := w.drawn + 1 } := by
  obtain ⟨ρ, D, hg, hd, hD, hev⟩ := ha
  obtain ⟨h1, h2⟩ := hg.mem.same (w' := { w with drawn := w.drawn + 1 }) rfl rfl rfl rfl
  refine ⟨ρ, D, ⟨h1, fun i x hi => ?_, hg.big, fun g y hy => (hg.gl g y hy).mono h2.evo NoNm (fun _ h => h.elim)⟩, ⟨hd.1.mono h2.evo, hd.2⟩, hD, hev.trans h2⟩
  obtain ⟨v, k1, k2⟩ := hg.tm i x hi
  exact ⟨v, k1, k2.mono h2.evo h2.agree⟩
/-- A slot is given a value by value. -/
theorem At.slot {h : Ents} {C : Ctx} {t : Tms} {e : Ents} {n m : Nat} {tmps : Array Value} {ds : List Deferred} {w : World} (ha : At G h C ⟨t, e, n, m⟩ ⟨tmps, ds⟩ w) {p : Nat} (hp : p < m) {x : AV} {v : Value}
    {S0 : Nat → Prop} {w0 : World} {ρ0 : Nat → Nat} (hx : RV ρ0 S0 w0 NoNm x v) (hs : ∀ b, S0 b → ∃ o, w0.heap[b]? = some o ∧ C.sp b o) : At G h C ⟨putT t (some p) x, e, n, m⟩ ⟨tmps.setIfInBounds p v, ds⟩ w := by
  obtain ⟨ρ, D, hg, hd, hD, hev⟩ := ha
  have hsz : tmps.size = m := hd.2
  refine ⟨ρ, D, ⟨hg.mem, fun i y hi => ?_, hg.big, hg.gl⟩, ⟨hd.1, by simpa using hsz⟩, hD, hev⟩
  rw [lk_putT] at hi
  split at hi
  · next hq =>
    subst hq; cases hi
    refine ⟨v, by simp [hsz, hp], hx.still (fun b hb => ?_) _⟩
    obtain ⟨o, h1, h2⟩ := hs b hb
    obtain ⟨h3, h4⟩ := hd.1.1 b o h2
    exact ⟨h3, h4.trans h1.symm⟩
  · next hq =>
    obtain ⟨u, k1, k2⟩ := hg.tm i y hi
    exact ⟨u, by rw [Array.getElem?_setIfInBounds_ne hq]; exact k1, k2⟩

/-- The assignment to the loop's variable. -/
def AsgK (P : Program) (p q : Nat) (c : Code) : Prop :=
  ∀ (l : Nat) (tmps : Array Value) (w : World) (Q : Exit → Act → World → Prop), Q .normal ⟨tmps.setIfInBounds q (tmps.getD p undef), []⟩ w → c.wpIn (fr (some l)) 0 P Q ⟨tmps, []⟩ w
theorem AsgK.of {p q id : Nat} {ty : TypeId} {pos : String} {after : Array Edge} : AsgK P p q (.region id #[⟨some q, .assign (.tmp p), ty, pos, after, none⟩] false) := by
  intro l tmps w Q hQ
  refine wpIn_region_list ?_
  refine wpListIn_step (fun K' hK' => ?_)
  simp only [Region.wanted, if_true]
  refine ⟨fun f _ => fr_fn f, ?_⟩
  rw [Oper.semAt_eq _ _ _ (by rintro c hc; cases hc)]
  simp only [execOp, Sem.run_pure, Oper.uponIn]
  exact hK' _ _ (wpListIn_nil (by simpa [Act.put, Act.eval] using hQ))

theorem W.rangeFunc {g : Operand} {p q f : Nat} {assign body : Code} {st : St} {Q : Exit → St → Prop} {cap xs : List AV} (t0 : Tms) (eK : Nat → Ents) (n : Nat)
    (hg : ev G st.t g = some (.fn (.func f) cap)) (hcap : ∀ l, cap ≠ .nilf :: l) (hby : AV.nmInL NoNm cap) (hit : IterR P f cap xs) (hcal : Callable P f) (hA : AsgK P p q assign)
    (hp : p < st.m) (hq : q < st.m) (h0 : wk [] st ⟨t0, eK 0, n, st.m⟩)
    (hnm : ∀ k, k ≤ xs.length → (∀ i x, lk t0 i = some x → x.nmIn (Nm (eK k))) ∧ entsIn (Nm (eK k)) (eK k) ∧ nmH n (eK k))
    (round : ∀ (k : Nat) (x : AV) (l : Nat), xs[k]? = some x → ∀ K : St → Prop, (∀ s a b, a < s.n ∧ b < s.n → wk [] (St.swap a b ⟨t0, s.e, s.n, st.m⟩) ⟨t0, eK (k + 1), n, st.m⟩ → K s) →
      W (some l) P G (eK k) body ⟨putT (putT t0 (some p) x) (some q) x, eK k, n, st.m⟩ (thn K fun _ _ => False))
    (hQ : Q .normal ⟨t0, eK xs.length, n, st.m⟩) : W none P G [] (.rangeFunc g #[p] assign body) st Q := by
  intro C a w ha
  obtain ⟨tmps, ds⟩ := a
  -- the function's value
  obtain ⟨ρ0, D0, hg0, hd0, hD0, hev0⟩ := id ha
  obtain ⟨cs, hv1, hv2⟩ := (ev_sound hg0 (fun _ _ h => h) hg).inv (fun l hl => by cases hl)
  cases hv2 with
  | fnb us hus => exact absurd rfl (hcap _)
  | fn us hus hne =>
  let lb : List Value := cap.zipIdx.map fun (x, i) => shape x (us i)
  have hval : Act.eval ⟨tmps, ds⟩ g = .func (.func f) #[] lb.toArray := hv1
  have hlbl : lb.length = cap.length := by simp [lb]
  obtain ⟨vs, hvl, hvs, hiter⟩ := hit (Stab C.B ρ0 st.e w) w lb ρ0 hlbl (fun i x hi => ⟨shape x (us i), by simp [lb, hi], .one ((hus i x hi).restrict (AV.nmInL_get hby i x hi))⟩)
  -- the loop's record
  refine wpIn_rangeFunc ?_
  intro fnid hfn
  let Dk := w.heap.size
  let l := w.heap.size + 1
  let rec0 : LoopState → Option Code → Loop := fun st pe => { state := st, pending := pe, fn := fnid, tmps := tmps, params := #[p], assign, body, defers := w.heap.size }
  let S0 : Nat → Obj → Prop := fun b o => Stab C.B ρ0 st.e w b ∧ w.heap[b]? = some o
  let sp (r : Loop) : Nat → Obj → Prop := fun b o => ((C.sp b o ∨ S0 b o) ∨ (b = Dk ∧ o = .deferred (some []))) ∨ (b = l ∧ o = .loop r)
  let Cl (r : Loop) : Ctx := ⟨C.B, C.ρ, C.w, C.big, sp r, C.tail⟩
  let W1 := (w.alloc (.deferred (some []))).alloc (.loop (rec0 .ready none))
  have hsw : C.w.heap.size ≤ w.heap.size := hev0.size
  have hCl : C.w.heap.size ≤ l := Nat.le_succ_of_le hsw
  -- a turn of the record
  have turn : ∀ (r r' : Loop) (s : St) (a : Act) (W : World), At G [] (Cl r) s a W → At G [] (Cl r') s a (W.putObj l (.loop r')) := by
    intro r r' s a W hW
    have hl : W.heap[l]? = some (.loop r) := hW.sp_get (.inr ⟨rfl, rfl⟩)
    refine At.turn (C := Cl r) (sp' := sp r') hW hCl hl rfl rfl rfl (fun ρ hst hS hmk => ?_)
    obtain ⟨h1, dl, h2, h3, h4⟩ := hmk
    have hkeep : ∀ b o, W.heap[b]? = some o → b ≠ l → (W.putObj l (.loop r')).heap[b]? = some o := fun b o hb hne => (World.putObj_heap_other hne).trans hb
    have hno : ∀ b o, ((C.sp b o ∨ S0 b o) ∨ (b = Dk ∧ o = .deferred (some []))) → b ≠ l := by
      rintro b o ((hb | hb) | ⟨hb, _⟩) hq
      · have := (hd0.1.1 _ _ hb).1.2.1
        have hq : b = w.heap.size + 1 := hq
        omega
      · have := hb.1.2.1
        have hq : b = w.heap.size + 1 := hq
        omega
      · have hq : b = w.heap.size + 1 := hq
        have hb : b = w.heap.size := hb
        omega
    refine ⟨fun b o hb => ?_, dl, h2, h3, fun b hb => ?_⟩
    · rcases hb with hb | ⟨rfl, rfl⟩
      · obtain ⟨k1, k2⟩ := h1 b o (.inl hb)
        exact ⟨hS b k1, hkeep b o k2 (hno b o hb)⟩
      · exact ⟨hS l hst, World.putObj_heap_same hst.2.1⟩
    · obtain ⟨k0, k1, k2⟩ := h4 b hb
      refine ⟨k0, hS b k1, hkeep b _ k2 ?_⟩
      rintro rfl
      rw [hl] at k2; cases k2
  let J : Nat → World → Prop := fun k W => At G [] (Cl (rec0 .ready none)) ⟨t0, eK k, n, st.m⟩ ⟨tmps, ds⟩ W
  have hJ0 : J 0 W1 := by
    have h1 : At G [] ⟨C.B, C.ρ, C.w, C.big, fun b o => C.sp b o ∨ S0 b o, C.tail⟩ st ⟨tmps, ds⟩ w :=
      ⟨ρ0, D0, hg0, ⟨⟨fun b o hb => hb.elim (hd0.1.1 b o) (fun hb => hb), hd0.1.2⟩, hd0.2⟩, hD0, hev0⟩
    have h2 := ((h1.weaken (Wk.of h0)).alloc (.deferred (some []))).alloc (.loop (rec0 .ready none))
    refine h2.sps (fun b o hb => ?_)
    rcases hb with (hb | ⟨rfl, rfl⟩) | ⟨rfl, rfl⟩
    · exact .inl (.inl hb)
    · exact .inl (.inr ⟨rfl, rfl⟩)
    · exact .inr ⟨by show w.heap.size + 1 = (w.alloc _).heap.size; simp, rfl⟩
  have hS0 : ∀ (r : Loop) b, Stab C.B ρ0 st.e w b → ∃ o, w.heap[b]? = some o ∧ (Cl r).sp b o := fun r b hb => ⟨_, Array.getElem?_eq_getElem hb.2.1, .inl (.inl (.inr ⟨hb, Array.getElem?_eq_getElem hb.2.1⟩))⟩
  refine ⟨l, [{ target := .collected Dk, args := #[] }], W1, { target := .fn (.func f) lb.toArray, args := #[.func (.yield l) #[] #[]] }, W1, f, #[.func (.yield l) #[] #[]] ++ lb.toArray, W1, ?_, ?_, ?_, ?_, (fun hq => by cases hq), ?_⟩
  · exact run_enterLoop_outer _ _ _ _ _
  · simp only [resolve, hval]
    simp [go_sem]
  · intro f' _; exact fr_fn f'
  · have : ∀ args w, (callFunc f args).run P w = .ok (.enter f args) w := fun args w => hcal.run args w
    simp [invoke, go_sem, this]
  · refine (hiter l J W1 ?_ ?_ ?_ hJ0).mono ?_
    · intro k W hW b hb
      obtain ⟨o, h1, h2⟩ := hS0 (rec0 .ready none) b hb
      exact (hW.sp_get h2).trans h1.symm
    · intro k W hW
      exact hW.drew
    · -- one round
      intro k v W hk hW
      have hlk : W.heap[l]? = some (.loop (rec0 .ready none)) := hW.sp_get (.inr ⟨rfl, rfl⟩)
      have hklt : k < xs.length := by have := (List.getElem?_eq_some_iff.1 hk).1; omega
      obtain ⟨x, hx⟩ : ∃ x, xs[k]? = some x := ⟨_, List.getElem?_eq_getElem hklt⟩
      obtain ⟨v', hv', hxv⟩ := hvs k x hx
      rw [hk] at hv'; cases hv'
      have hy := run_yield (P := P) (args := #[v]) hlk rfl
      refine ⟨fnid, tmps.setIfInBounds p v, assign, body, by simpa [rec0] using hy, roundIn_of_wpIn trivial (hA l _ W _ ?_)⟩
      refine ⟨_, run_beginRound hlk rfl, ?_⟩
      have hb1 := turn _ (rec0 .busy none) _ _ _ hW
      obtain ⟨hn1, hn2, hn3⟩ := hnm k (Nat.le_of_lt hklt)
      obtain ⟨C3, h3, hin, hout⟩ := hb1.inner hn1 hn2 hn3
      have hS3 : ∀ b, Stab C.B ρ0 st.e w b → ∃ o, w.heap[b]? = some o ∧ C3.sp b o := fun b hb => by rw [h3]; exact hS0 _ b hb
      have hr1 := (hin.slot hp hxv hS3).slot hq hxv hS3
      have hgd : (tmps.setIfInBounds p v).getD p undef = v := by
        have : tmps.size = st.m := hd0.2
        simp [Array.getD_eq_getD_getElem?, this, hp]
      rw [hgd]
      refine wpIn_mono (round k x l hx (fun s => ∃ a b, (a < s.n ∧ b < s.n) ∧ wk [] (St.swap a b ⟨t0, s.e, s.n, st.m⟩) ⟨t0, eK (k + 1), n, st.m⟩) (fun s a b h1 h2 => ⟨a, b, h1, h2⟩) C3 _ _ hr1) ?_
      rintro z a3 W3 ⟨s, hz, hs⟩
      cases z with
      | normal =>
        obtain ⟨c, d, ⟨hc, hd⟩, hwk⟩ := hz
        have ho := hout s a3 W3 hs
        have hl3 : W3.heap[l]? = some (.loop (rec0 .busy none)) := ho.sp_get (.inr ⟨rfl, rfl⟩)
        refine ⟨_, _, run_endRound none hl3, rfl, ?_⟩
        have h5 := turn _ (rec0 .ready none) _ _ _ ho
        have h6 := At.swap (h := []) (st := ⟨t0, s.e, s.n, st.m⟩) (a := c) (b := d) (by simp [Nm, lk]) (by simp [Nm, lk]) hc hd h5
        exact h6.weaken (Wk.of hwk)
      | _ => exact hz.elim
    · -- behind the loop
      rintro e W2 ⟨⟨v, rfl⟩, hW⟩
      rw [hvl] at hW
      have hl2 : W2.heap[l]? = some (.loop (rec0 .ready none)) := hW.sp_get (.inr ⟨rfl, rfl⟩)
      refine ⟨none, _, run_endLoop hl2 (by simp [rec0]), _, hQ, ?_⟩
      have h5 := turn _ (rec0 .exhausted none) _ _ _ hW
      have hD5 : (W2.putObj l (.loop (rec0 .exhausted none))).heap[Dk]? = some (.deferred (some [])) := h5.sp_get (.inl (.inr ⟨rfl, rfl⟩))
      obtain ⟨ρ, D, hg5, hd5, hD5', hev5⟩ := h5
      refine ⟨ρ, D, ⟨hg5.mem, hg5.tm, hg5.big, hg5.gl⟩, ⟨⟨fun b o hb => hd5.1.1 b o (.inl (.inl (.inl hb))), ?_⟩, hd5.2⟩, hD5', hev5⟩
      obtain ⟨_, dl, q1, q2, q3⟩ := hd5.1
      obtain ⟨_, dl0, q4, q5, q6⟩ := hd0.1
      have q1 : ds = mks dl ++ C.tail := q1
      have q4 : ds = mks dl0 ++ C.tail := q4
      have hq : dl0 = dl := mks_inj (List.append_cancel_right (q4.symm.trans q1))
      subst hq
      refine ⟨Dk :: dl0, by rw [q1]; rfl, List.nodup_cons.2 ⟨fun hm => ?_, q2⟩, fun b hb => ?_⟩
      · exact absurd (q6 _ hm).2.1.2.1 (Nat.lt_irrefl _)
      · rcases List.mem_cons.1 hb with rfl | hb
        · exact ⟨hsw, (hd5.1.1 _ _ (.inl (.inr ⟨rfl, rfl⟩))).1, hD5⟩
        · exact q3 b hb

/-- A whole entry that nobody writes any more is told by value. -/
theorem W.pel {ro : Option Nat} {c : Code} {st : St} {Q : Exit → St → Prop} (i nm : Nat) {T : TypeId} {v : AV} (t : Tms) (e : Ents) (hi : lk st.t i = some (.ptr nm 0 0 1)) (hnm : lk st.e nm = some (.obj T v)) (hv : v.nmIn NoNm)
    (h : leL t st.t ∧ leL e st.e ∧ lk e nm = none ∧ (∀ i x, lk t i = some x → x.nmIn (Nm e)) ∧ entsIn (Nm e) e ∧ nmH st.n e) (hw : W ro P G [] c ⟨(i, .pel v) :: t, e, st.n, st.m⟩ Q) : W ro P G [] c st Q := by
  intro C a w ha
  refine hw C a w ?_
  obtain ⟨ρ, D, hg, hd, hD, hev⟩ := ha
  obtain ⟨ht, he, hno, hnt, hne, hnn⟩ := h
  have ht := leL_le ht
  have he := leL_le he
  have hS : ∀ b, Stab C.B ρ st.e w b → Stab C.B ρ e w b := fun b hb => ⟨hb.1, hb.2.1, fun m x hm => hb.2.2 m x (he _ _ hm)⟩
  have hself : Evo (Stab C.B ρ st.e w) (Stab C.B ρ e w) w w := ⟨fun b hb => ⟨hS b hb, rfl⟩, fun b n hb => hb⟩
  have hent := (hg.mem.en nm _ hnm).2
  cases hent with
  | obj hr hcel =>
  rename_i cs
  have hst : Stab C.B ρ e w (ρ nm) := by
    refine ⟨?_, hcel.lt, fun m x hm hq => ?_⟩
    · rcases hev.fresh nm _ hnm with ⟨m0, x0, h0, _⟩ | h
      · cases h0
      · exact C.big _ h
    · have := hg.mem.inj _ _ _ _ (he _ _ hm) hnm hq
      subst this
      rw [hno] at hm; cases hm
  refine ⟨ρ, Nm e, ⟨⟨fun m x hm => ⟨by simp [Nm, hm], ((hg.mem.en m x (he _ _ hm)).2.restrict (entsIn_get hne m x hm)).mono hself (fun n h => ⟨h, rfl⟩) rfl⟩, fun m m' x x' hm hm' hq => hg.mem.inj m m' x x' (he _ _ hm) (he _ _ hm') hq⟩, fun j x hj => ?_, hg.big, fun g x hx => (hg.gl g x hx).mono hself NoNm (fun _ h => h.elim)⟩,
    ⟨hd.1.stab hS, hd.2⟩, nmH_get hnn, ⟨⟨fun b hb => ⟨hS b (hev.evo.stable b hb).1, (hev.evo.stable b hb).2⟩, hev.evo.sized⟩, fun n hn => (by cases hn), fun m x hm => hev.fresh m x (he _ _ hm), hev.size, hev.os, hev.out, hev.tape, hev.others⟩⟩
  simp only [lk] at hj
  split at hj
  · next hq =>
    subst hq; cases hj
    obtain ⟨u, h1, h2⟩ := hg.tm _ _ hi
    obtain ⟨us, rfl, h3⟩ := h2.inv (fun l hl => by cases hl)
    cases h3
    refine ⟨_, h1, .one (.pel ((hr.restrict hv).mono hself NoNm (fun _ h => h.elim)) hst (fun k y hk => ?_))⟩
    rw [hcel.cell]; simpa using hk
  · next hq =>
    obtain ⟨u, h1, h2⟩ := hg.tm j x (ht _ _ hj)
    exact ⟨u, h1, (h2.restrict (hnt _ _ hj)).mono hself (fun n h => ⟨h, rfl⟩)⟩
end
end Sx

/- Functions that defer a call of a function. -/
set_option linter.unusedVariables false
set_option linter.unusedSimpArgs false
namespace Sx
open Go

theorem put_defers (a : Act) (d : Option Tmp) (v : Value) : (a.put d v).defers = a.defers := by cases d <;> rfl

theorem exOps_soundD {ro : Option Nat} {P : Program} {tt : Nat → Option TI} {G : Nat → Option AV} {ds : List Deferred} (hTT : TT P tt) {h : Ents} {C : Ctx} {all : List Oper} {K : St → Prop} {Q : Exit → Act → World → Prop} (hQ : ∀ st a w, K st → At G h C st a w → a.defers = ds → Q .normal a w) :
    ∀ (ops : List Oper) (st : St) (a : Act) (w : World), At G h C st a w → a.defers = ds → exOps P tt G all ops st K → wpListIn (fr ro) 0 P all.toArray Q ops a w
  | [], st, a, w, ha, hds, hk => wpListIn_nil (hQ st a w hk ha hds)
  | o :: rest, st, a, w, ha, hds, hk => by
    obtain ⟨dst, op, ty, pos, after, gd⟩ := o
    simp only [exOps] at hk
    refine wpListIn_step (fun K' hK' => ?_)
    have run : ∀ (hm : inB dst st.m) (h : exOp P tt G st.t st.e st.n op fun v d => exOps P tt G all rest ⟨putT st.t dst v, ap d st.e, st.n + 16, st.m⟩ K), Oper.wpIn (fr ro) 0 P ⟨dst, op, ty, pos, after, gd⟩ a w K' Q := by
      intro hm hop
      obtain ⟨v, d, h1, h2⟩ := exOp_sound (dst := dst) (ty := ty) (pos := pos) (after := after) (gd := gd) hTT hop
      obtain ⟨ρ, D, hg, hd, hD, hev⟩ := ha
      refine (h2 C.B ρ D st.t st.e a w (fun _ _ h => h) (fun _ _ h => h) hg (fun n h1 h2 hn => by have := hD n hn; omega)).wpI (exOp_nodefer hop) (fun x w' hp => hK' _ _ ?_)
      exact exOps_soundD hTT hQ rest _ _ _ (At.step hg hd hD hev hm hp) ((put_defers _ _ _).trans hds) h1
    cases gd with
    | none => simp only [Region.wanted, if_true]; exact run hk.1 hk.2
    | some g =>
      obtain ⟨j, want⟩ := g
      simp only at hk
      split at hk
      · next b hb =>
        obtain ⟨hm, h1, h2⟩ := hk
        have hy : yielded all.toArray a.tmps j = some b := by
          obtain ⟨ρ, D, hg, _⟩ := id ha
          rw [Option.bind_eq_some_iff] at hb
          obtain ⟨dj, hd1, hd2⟩ := hb
          obtain ⟨v, hv1, hv2⟩ := hg.tm _ _ hd2
          rw [hv2.bool_inv] at hv1
          unfold yielded
          have : (all.toArray[j]?).bind (·.dst) = some dj := by simpa using hd1
          rw [this, Option.bind_some, hv1]
        simp only [Region.wanted, hy]
        by_cases hq : b = want
        · rw [if_pos (by simp [hq])]; exact run hm (h1 hq)
        · rw [if_neg (by simp [hq])]
          refine ⟨fun f _ => fr_fn f, hK' _ _ (exOps_soundD hTT hQ rest _ _ _ ?_ ((put_defers _ _ _).trans hds) (h2 hq))⟩
          obtain ⟨ρ, D, hg, hd, hD, hev⟩ := ha
          exact At.step (d := []) hg hd hD hev hm (Post.pure hg.mem .unit)
      · next hb =>
        obtain ⟨hm, h2⟩ := hk
        have hy : yielded all.toArray a.tmps j = none := by
          obtain ⟨ρ, D, hg, _⟩ := id ha
          rw [Option.bind_eq_some_iff] at hb
          obtain ⟨dj, hd1, hd2⟩ := hb
          obtain ⟨v, hv1, hv2⟩ := hg.tm _ _ hd2
          obtain ⟨vs, hv, _, _⟩ := hv2.tup_inv
          rw [hv] at hv1
          unfold yielded
          have : (all.toArray[j]?).bind (·.dst) = some dj := by simpa using hd1
          rw [this, Option.bind_some, hv1]
        simp only [Region.wanted, hy]
        rw [if_neg (by simp)]
        refine ⟨fun f _ => fr_fn f, hK' _ _ (exOps_soundD hTT hQ rest _ _ _ ?_ ((put_defers _ _ _).trans hds) h2)⟩
        obtain ⟨ρ, D, hg, hd, hD, hev⟩ := ha
        exact At.step (d := []) hg hd hD hev hm (Post.pure hg.mem .unit)
      · exact hk.elim


/-- The contract of a function whose second region defers a call that does nothing when nothing panics. -/
theorem FnR.of_bodyD {P : Program} {tt : Nat → Option TI} {G : Nat → Option AV} (hTT : TT P tt) {f g : FuncId} {fn : Func} {c1 : Code} {ops : List Oper} {id id' : Nat} {i : Nat} {ats : Array TypeId} {ty : TypeId} {pos : String} {after : Array Edge} {args : List AV} {h h' : Ents} {r : AV} {n0 m : Nat} (hf : P.funcs[f]? = some fn)
    (hb : fn.body = some (.seq (.region id ops.toArray false) (.seq (.region id' #[⟨none, .defer { callee := .value (.func g), args := #[.tmp i], argTypes := ats }, ty, pos, after, none⟩] false) c1)))
    (hm : fn.ntmps = m) (hargs : args.length ≤ m) (hn0 : nmH n0 h)
    (hg : ∀ p w, CallsDIn (fr none) 0 P g #[p] .returning w fun e u' w' => (∃ v, e = .returned v) ∧ u' = .returning ∧ w' = w)
    (hgc : Callable P g)
    (hW : exOps P tt G ops ops ⟨parT 0 args, h, n0, m⟩ fun st => W none P G h c1 st (fin tt fn.results.toList r h')) :
    FnR P G f args h r h' := by
  have key : ∀ st, finB tt fn.results.toList r h' st → ∃ vs, Ok (resQ tt st.e st.t fn.results.toList) vs ∧ resV vs = r ∧ Le h' st.e ∧ r.nmIn (Nm h') ∧ entsIn (Nm h') h' := by
    rintro st ⟨h1, h2, h3, h4⟩
    obtain ⟨vs, h5, h6⟩ := onQ_spec h1
    exact ⟨vs, h5, h6, leL_le h2, h3, h4⟩
  have key2 : ∀ x st, fin tt fn.results.toList r h' x st → (x = .normal ∨ x = .ret) ∧ ∃ vs, Ok (resQ tt st.e st.t fn.results.toList) vs ∧ resV vs = r ∧ Le h' st.e ∧ r.nmIn (Nm h') ∧ entsIn (Nm h') h' := by
    rintro x st hx
    cases x with
    | normal => exact ⟨.inl rfl, key st hx⟩
    | ret => exact ⟨.inr rfl, key st hx⟩
    | _ => exact hx.elim
  intro B ρ w vs hbig hmem hgl hlen ha
  subst hm
  refine (callsIn_wide (n := 0)).1 (callsIn_of_wp_marks (F := fr none) hf hb trivial ?_)
  have hat0 : At G h ⟨B, ρ, w, hbig, fun _ _ => False, []⟩ ⟨parT 0 args, h, n0, fn.ntmps⟩ { tmps := vs.toArray ++ Array.replicate (fn.ntmps - vs.toArray.size) undef, defers := [] } w := by
    refine ⟨ρ, Nm h, ⟨hmem, fun i x hi => ?_, hbig, hgl⟩, ⟨Mk.nil rfl, ?_⟩, nmH_get hn0, Evol.refl w⟩
    · obtain ⟨_, h2⟩ := lk_parT args 0 i x hi
      obtain ⟨v, h3, h4⟩ := ha i x (by simpa using h2)
      have hlt := (List.getElem?_eq_some_iff.1 h3).1
      exact ⟨v, by simp only [Array.getElem?_append, List.size_toArray]; rw [if_pos hlt]; simpa using h3, h4⟩
    · simp; omega
  refine wpIn_seq (wpIn_region_lit ?_)
  refine exOps_soundD (ds := []) hTT (fun st a w1 hK hat hds => ?_) ops _ _ _ hat0 rfl hW
  show Code.wpIn (fr none) 0 P _ _ a w1
  refine wpIn_seq (wpIn_region_lit ?_)
  refine wpListIn_step (fun K' hK' => ?_)
  simp only [Region.wanted, if_true]
  refine ⟨fun f _ => fr_fn f, ?_⟩
  obtain ⟨ρ1, D1, hg1, hd1, hD1, hev1⟩ := hat
  have hrun : (Oper.semAt (fr none).round a.eval ⟨none, .defer { callee := .value (.func g), args := #[.tmp i], argTypes := ats }, ty, pos, after, none⟩).run P w1 = .ok (.defer { target := .fn (.func g) #[], args := #[a.eval (.tmp i)] }) w1 := by
    rw [show (fr none).round = none from rfl, Oper.semAt_none]
    simp [execOp, resolve, Act.eval, Deferred.ofValue]
  rw [hrun, Oper.uponIn_defer]
  refine hK' _ _ (wpListIn_nil ?_)
  show Code.wpIn (fr none) 0 P _ _ _ w1
  have hat1 : At G h ⟨B, ρ, w, hbig, fun _ _ => False, [{ target := .fn (.func g) #[], args := #[a.eval (.tmp i)] }]⟩ st (({ a with defers := { target := .fn (.func g) #[], args := #[a.eval (.tmp i)] } :: a.defers } : Act).put none undef) w1 := by
    refine ⟨ρ1, D1, ⟨hg1.mem, hg1.tm, hg1.big, hg1.gl⟩, ⟨⟨fun b o hb => hb.elim, [], ?_, .nil, fun b hb => by cases hb⟩, hd1.2⟩, hD1, hev1⟩
    show _ :: a.defers = _
    rw [hds]; rfl
  refine wpIn_mono (hK.mono key2 _ _ _ hat1) ?_
  rintro x ⟨tmps, ds⟩ w2 ⟨st', ⟨hx, us, h1, h2, h3, h4, h5⟩, hat2⟩
  obtain ⟨_, _, _, ⟨⟨_, dl, h6, _⟩, _⟩, _⟩ := _root_.id hat2
  have h6 : ds = mks dl ++ [_] := h6
  subst h6
  obtain ⟨w3, hat3, hl⟩ := At.leave (P := P) (fn := fn) (R := fun e w' => ∃ x ρ', e = .returned x ∧ RV ρ' (Stab B ρ' h' w') w' (Nm h') r x ∧ Mem B ρ' (Nm h') h' w' ∧ Kept B ρ h w ρ' h' w') (u := .returning) (fun q => by cases q) (fun _ _ h => h) dl w2 hat2
  have fin : LeavesInM (fr none) 0 P fn tmps (fun e w' => ∃ x ρ', e = .returned x ∧ RV ρ' (Stab B ρ' h' w') w' (Nm h') r x ∧ Mem B ρ' (Nm h') h' w' ∧ Kept B ρ h w ρ' h' w') [{ target := .fn (.func g) #[], args := #[a.eval (.tmp i)] }] .returning w3 := by
    refine ⟨(fun q => by cases q), .inr ⟨(fun q => by cases q), .func g, #[], g, #[a.eval (.tmp i)], rfl, ?_, fun _ _ => fr_fn _, ?_⟩⟩
    · simp only [invoke, Array.append_empty]; exact hgc.run _ _
    · refine (hg _ _).mono ?_
      rintro e u' w' ⟨⟨v, rfl⟩, rfl, rfl⟩
      show LeavesIn (fr none) 0 P fn tmps _ [] .returning w'
      obtain ⟨ρ', D', hg2, hd, hD, hev⟩ := hat3
      obtain ⟨u, h6, h7⟩ := results_run (P := P) hTT hg2 h1
      rw [h2] at h7
      have hS : ∀ b, Stab B ρ' st'.e w' b → Stab B ρ' h' w' b := fun b hb => ⟨hb.1, hb.2.1, fun m x hm => hb.2.2 m x (h3 _ _ hm)⟩
      have hself : Evo (Stab B ρ' st'.e w') (Stab B ρ' h' w') w' w' := ⟨fun b hb => ⟨hS b hb, rfl⟩, fun b n hb => hb⟩
      refine ⟨u, h6, u, ρ', rfl, (h7.restrict h4).mono hself (fun n hn => ⟨hn, rfl⟩), ⟨fun m x hm => ⟨by simp [Nm, hm], ?_⟩, fun m m' x x' hm hm' hq => hg2.mem.inj m m' x x' (h3 _ _ hm) (h3 _ _ hm') hq⟩,
        ⟨fun b hb => ⟨hS b (hev.evo.stable b hb).1, (hev.evo.stable b hb).2⟩, hev.evo.sized⟩, fun n h1 _ => (hev.agree n h1).2, fun m x hm => hev.fresh m x (h3 _ _ hm), hev.size, hev.os, hev.out, hev.tape, hev.others⟩
      exact ((hg2.mem.en m x (h3 _ _ hm)).2.restrict (entsIn_get h5 m x hm)).mono hself (fun n hn => ⟨hn, rfl⟩) rfl
  rcases hx with rfl | rfl
  · exact hl fin
  · exact hl fin

/-- The same, results told by value. -/
theorem FnR.of_bodyDT {P : Program} {tt : Nat → Option TI} {G : Nat → Option AV} (hTT : TT P tt) {f g : FuncId} {fn : Func} {c1 : Code} {ops : List Oper} {id id' : Nat} {i : Nat} {ats : Array TypeId} {ty : TypeId} {pos : String} {after : Array Edge} {args : List AV} {r : List AV} {m : Nat} (hf : P.funcs[f]? = some fn)
    (hb : fn.body = some (.seq (.region id ops.toArray false) (.seq (.region id' #[⟨none, .defer { callee := .value (.func g), args := #[.tmp i], argTypes := ats }, ty, pos, after, none⟩] false) c1)))
    (hm : fn.ntmps = m) (hargs : args.length ≤ m) 
    (hg : ∀ p w, CallsDIn (fr none) 0 P g #[p] .returning w fun e u' w' => (∃ v, e = .returned v) ∧ u' = .returning ∧ w' = w)
    (hgc : Callable P g)
    (hW : exOps P tt G ops ops ⟨parT 0 args, [], 0, m⟩ fun st => W none P G [] c1 st (finT tt fn.results.toList r)) :
    FnR P G f args [] (.tup r) [] := by
  have key2 : ∀ x st, finT tt fn.results.toList r x st → (x = .normal ∨ x = .ret) ∧ finTB tt fn.results.toList r st := by
    rintro x st hx
    cases x with
    | normal => exact ⟨.inl rfl, hx⟩
    | ret => exact ⟨.inr rfl, hx⟩
    | _ => exact hx.elim
  intro B ρ w vs hbig hmem hgl hlen ha
  subst hm
  refine (callsIn_wide (n := 0)).1 (callsIn_of_wp_marks (F := fr none) hf hb trivial ?_)
  have hat0 : At G [] ⟨B, ρ, w, hbig, fun _ _ => False, []⟩ ⟨parT 0 args, [], 0, fn.ntmps⟩ { tmps := vs.toArray ++ Array.replicate (fn.ntmps - vs.toArray.size) undef, defers := [] } w := by
    refine ⟨ρ, Nm [], ⟨hmem, fun i x hi => ?_, hbig, hgl⟩, ⟨Mk.nil rfl, ?_⟩, fun n h => (by cases h), Evol.refl w⟩
    · obtain ⟨_, h2⟩ := lk_parT args 0 i x hi
      obtain ⟨v, h3, h4⟩ := ha i x (by simpa using h2)
      have hlt := (List.getElem?_eq_some_iff.1 h3).1
      exact ⟨v, by simp only [Array.getElem?_append, List.size_toArray]; rw [if_pos hlt]; simpa using h3, h4⟩
    · simp; omega
  refine wpIn_seq (wpIn_region_lit ?_)
  refine exOps_soundD (ds := []) hTT (fun st a w1 hK hat hds => ?_) ops _ _ _ hat0 rfl hW
  show Code.wpIn (fr none) 0 P _ _ a w1
  refine wpIn_seq (wpIn_region_lit ?_)
  refine wpListIn_step (fun K' hK' => ?_)
  simp only [Region.wanted, if_true]
  refine ⟨fun f _ => fr_fn f, ?_⟩
  obtain ⟨ρ1, D1, hg1, hd1, hD1, hev1⟩ := hat
  have hrun : (Oper.semAt (fr none).round a.eval ⟨none, .defer { callee := .value (.func g), args := #[.tmp i], argTypes := ats }, ty, pos, after, none⟩).run P w1 = .ok (.defer { target := .fn (.func g) #[], args := #[a.eval (.tmp i)] }) w1 := by
    rw [show (fr none).round = none from rfl, Oper.semAt_none]
    simp [execOp, resolve, Act.eval, Deferred.ofValue]
  rw [hrun, Oper.uponIn_defer]
  refine hK' _ _ (wpListIn_nil ?_)
  show Code.wpIn (fr none) 0 P _ _ _ w1
  have hat1 : At G [] ⟨B, ρ, w, hbig, fun _ _ => False, [{ target := .fn (.func g) #[], args := #[a.eval (.tmp i)] }]⟩ st (({ a with defers := { target := .fn (.func g) #[], args := #[a.eval (.tmp i)] } :: a.defers } : Act).put none undef) w1 := by
    refine ⟨ρ1, D1, ⟨hg1.mem, hg1.tm, hg1.big, hg1.gl⟩, ⟨⟨fun b o hb => hb.elim, [], ?_, .nil, fun b hb => by cases hb⟩, hd1.2⟩, hD1, hev1⟩
    show _ :: a.defers = _
    rw [hds]; rfl
  refine wpIn_mono (hK.mono key2 _ _ _ hat1) ?_
  rintro x ⟨tmps, ds⟩ w2 ⟨st', ⟨hx, hv⟩, hat2⟩
  obtain ⟨_, _, _, ⟨⟨_, dl, h6, _⟩, _⟩, _⟩ := _root_.id hat2
  have h6 : ds = mks dl ++ [_] := h6
  subst h6
  obtain ⟨w3, hat3, hl⟩ := At.leave (P := P) (fn := fn) (R := fun e w' => ∃ x ρ', e = .returned x ∧ RV ρ' (Stab B ρ' [] w') w' (Nm []) (.tup r) x ∧ Mem B ρ' (Nm []) [] w' ∧ Kept B ρ [] w ρ' [] w') (u := .returning) (fun q => by cases q) (fun _ _ h => h) dl w2 hat2
  have fin : LeavesInM (fr none) 0 P fn tmps (fun e w' => ∃ x ρ', e = .returned x ∧ RV ρ' (Stab B ρ' [] w') w' (Nm []) (.tup r) x ∧ Mem B ρ' (Nm []) [] w' ∧ Kept B ρ [] w ρ' [] w') [{ target := .fn (.func g) #[], args := #[a.eval (.tmp i)] }] .returning w3 := by
    refine ⟨(fun q => by cases q), .inr ⟨(fun q => by cases q), .func g, #[], g, #[a.eval (.tmp i)], rfl, ?_, fun _ _ => fr_fn _, ?_⟩⟩
    · simp only [invoke, Array.append_empty]; exact hgc.run _ _
    · refine (hg _ _).mono ?_
      rintro e u' w' ⟨⟨v, rfl⟩, rfl, rfl⟩
      show LeavesIn (fr none) 0 P fn tmps _ [] .returning w'
      obtain ⟨ρ', D', hg2, hd, hD, hev⟩ := hat3
      obtain ⟨us, h1, h2, h3⟩ := onQ_spec hv
      obtain ⟨⟨r', f'⟩, h4, h5⟩ := onQ_spec h3
      simp only at h5
      subst h5
      obtain ⟨u, h6, h7⟩ := results_run (P := P) hTT hg2 h1
      have hrv : resV us = .tup us := by
        match us, h2 with
        | [], _ => rfl
        | _ :: _ :: _, _ => rfl
      rw [hrv] at h7
      have hS : ∀ b, Stab B ρ' st'.e w' b → Stab B ρ' [] w' b := fun b hb => ⟨hb.1, hb.2.1, fun m x hm => (by cases hm)⟩
      obtain ⟨k1, k2⟩ := vwL_each h4
      refine ⟨u, h6, u, ρ', rfl, ?_, ⟨fun m x hm => by (cases hm), fun m m' x x' hm => by (cases hm)⟩,
        ⟨fun b hb => ⟨hS b (hev.evo.stable b hb).1, (hev.evo.stable b hb).2⟩, hev.evo.sized⟩, fun n h1 _ => (hev.agree n h1).2, fun m x hm => by (cases hm), hev.size, hev.os, hev.out, hev.tape, hev.others⟩
      cases h7 with
      | one h => cases h
      | tup hl hh =>
        refine .tup (by rw [hl, k1]) (fun i x' hi => ?_)
        obtain ⟨x, f1, hx1, hx2⟩ := k2 i x' hi
        obtain ⟨cs, hc1, hc2⟩ := hh i x hx1
        obtain ⟨j1, j2⟩ := vw_sound (S' := Stab B ρ' [] w') (F := true) hS (fun nm x hx => (hg2.mem.en nm x hx).2) (fun _ nm x hx _ => by
          refine ⟨hbig _ ?_, hg2.mem.block_lt hx, fun m x hm => (by cases hm)⟩
          rcases hev.fresh nm x hx with ⟨m0, x0, h0, _⟩ | h
          · cases h0
          · exact h) _ cs x' f1 hc1 hx2 (fun _ => rfl)
        refine ⟨cs, j1, ?_⟩
        rw [hc2]
        simp only [shape, j2]
  rcases hx with rfl | rfl
  · exact hl fin
  · exact hl fin

/-- A function whose body is a region that asks for a panic, and a rest that does nothing, entered when nothing panics. -/
theorem idle_of_wpS {P : Program} {g : FuncId} {fn : Func} {c : Code} (hf : P.funcs[g]? = some fn) (hb : fn.body = some c)
    (h : ∀ (p : Value) (c₀ : Frame) (cs : List Frame) (w : World), c₀.mode = .returning →
      c.wpSIn (fr none) 0 P (fun x a cs' w' => (x = .normal ∨ x = .ret) ∧ a.defers = [] ∧ cs' = c₀ :: cs ∧ w' = w) { tmps := #[p] ++ Array.replicate (fn.ntmps - 1) undef, defers := [] } (c₀ :: cs) w) (hres : fn.results = #[]) :
    ∀ p w, CallsDIn (fr none) 0 P g #[p] .returning w fun e u' w' => (∃ v, e = .returned v) ∧ u' = .returning ∧ w' = w := by
  intro p w
  refine callsDIn_of_wpSIn hf hb trivial (fun c₀ cs hu => ?_)
  intro b k hk hro hF hroom
  obtain ⟨e, a', cs', w', hl, ⟨hx, hd, hc, hw⟩, harr⟩ := h p c₀ cs w hu b k hk hro hF hroom
  refine ⟨e, a', cs', w', hl, ?_, harr⟩
  have hq : a'.defers = [] ∧ ∃ u', cs' = { c₀ with mode := u' } :: cs ∧ ∃ v, (results fn a'.tmps).run P w' = .ok v w' ∧ ((∃ v', Ending.returned v = .returned v') ∧ u' = .returning ∧ w' = w) := by
    refine ⟨hd, .returning, by rw [hc, ← hu], ?_⟩
    have : (results fn a'.tmps).run P w' = .ok (.tuple #[]) w' := by simp [results, hres]
    exact ⟨_, this, ⟨_, rfl⟩, rfl, hw⟩
  rcases hx with rfl | rfl
  · exact hq
  · exact hq
/-- A region that asks for a panic where there is none. -/
theorem wpSIn_recover_none {P : Program} {id : Nat} {dst : Option Tmp} {ts : Array TypeId} {ty : TypeId} {pos : String} {after : Array Edge} {Q : Exit → Act → List Frame → World → Prop} {a : Act} {cs : List Frame} {w : World} (hr : recoverD cs = none) (h : Q .normal (a.put dst .nilIface) cs w) :
    (Code.region id #[⟨dst, .call { callee := .builtin .recover, args := #[], argTypes := ts }, ty, pos, after, none⟩] false).wpSIn (fr none) 0 P Q a cs w := by
  refine wpSIn_region ?_
  show wpOpsSIn _ _ _ _ _ [0] _ _ _
  have h0 : (#[⟨dst, .call { callee := .builtin .recover, args := #[], argTypes := ts }, ty, pos, after, none⟩] : Array Oper)[0]? = some ⟨dst, .call { callee := .builtin .recover, args := #[], argTypes := ts }, ty, pos, after, none⟩ := rfl
  rw [wpOpsSIn, h0]
  have h1 : (execOp a.eval ⟨dst, .call { callee := .builtin .recover, args := #[], argTypes := ts }, ty, pos, after, none⟩).run P w = .ok .recover w := by simp [execOp, resolve, invoke, builtin]
  refine ⟨fun f _ => fr_fn f, ?_⟩
  rw [if_pos (by rfl), h1]
  simp only [hr]
  rw [wpOpsSIn]
  exact h

/-- What a call gives back may be named anew. -/
theorem FnR.out {P : Program} {G : Nat → Option AV} {f : FuncId} {args : List AV} {h : Ents} {r : AV} {h' : Ents} (a b : Nat) (hF : FnR P G f args h r h') (hb1 : ¬ Nm h b) (hb2 : ¬ Nm h' b) : FnR P G f args h (r.map (swp a b)) (enMap (swp a b) h') := by
  intro B ρ w vs hb hm hg hl ha
  refine (hF B ρ w vs hb hm hg hl ha).mono ?_
  rintro e w' ⟨x, ρ', rfl, hr, hmem, hk⟩
  have hS : Stab B (fun n => ρ' (swp a b n)) (enMap (swp a b) h') w' = Stab B ρ' h' w' := Stab.swap
  refine ⟨x, fun n => ρ' (swp a b n), rfl, ?_, ⟨fun m y hy => ?_, fun m m' y y' hy hy' hq => ?_⟩, ⟨?_, fun n hn hn' => ?_, fun m y hy => ?_, hk.size, hk.os, hk.out, hk.tape, hk.others⟩⟩
  · rw [hS, Nm.swap]; exact hr.swap
  · rw [hS, Nm.swap]
    rw [lk_enMap, Option.map_eq_some_iff] at hy
    obtain ⟨z, hz, rfl⟩ := hy
    exact ⟨(hmem.en _ z hz).1, (hmem.en _ z hz).2.swap⟩
  · rw [lk_enMap, Option.map_eq_some_iff] at hy hy'
    obtain ⟨z, hz, rfl⟩ := hy
    obtain ⟨z', hz', rfl⟩ := hy'
    have := congrArg (swp a b) (hmem.inj _ _ _ _ hz hz' hq)
    simpa only [swp_swp] using this
  · rw [hS]; exact hk.evo
  · rw [Nm.swap] at hn'
    have h1 : n ≠ b := fun q => hb1 (q ▸ hn)
    have h2 : n ≠ a := fun q => by subst q; apply hb2; simpa [swp] using hn'
    have h3 : swp a b n = n := by simp [swp, h1, h2]
    show ρ' (swp a b n) = ρ n
    rw [h3]
    rw [h3] at hn'
    exact hk.agree n hn hn'
  · rw [lk_enMap, Option.map_eq_some_iff] at hy
    obtain ⟨z, hz, rfl⟩ := hy
    exact hk.fresh _ z hz

end Sx

/- A row that nobody writes any more, told by value. -/
set_option linter.unusedVariables false
set_option linter.unusedSimpArgs false
namespace Sx
open Go
section
variable {P : Program} {G : Nat → Option AV}
theorem W.psl {ro : Option Nat} {c : Code} {st : St} {Q : Exit → St → Prop} (i nm : Nat) {sz off len : Nat} {x : Ent} {r : Row} {v : AV} (t : Tms) (e : Ents) (hi : lk st.t i = some (.sl nm sz off len)) (hnm : lk st.e nm = some x) (hr : x.row = some r) (hv : Ok (viewR sz off len r) v)
    (h : leL t st.t ∧ leL e st.e ∧ lk e nm = none ∧ (∀ i x, lk t i = some x → x.nmIn (Nm e)) ∧ entsIn (Nm e) e ∧ nmH st.n e) (hw : W ro P G [] c ⟨(i, v) :: t, e, st.n, st.m⟩ Q) : W ro P G [] c st Q := by
  intro C a w ha
  refine hw C a w ?_
  obtain ⟨ρ, D, hg, hd, hD, hev⟩ := ha
  obtain ⟨ht, he, hno, hnt, hne, hnn⟩ := h
  have ht := leL_le ht
  have he := leL_le he
  have hS : ∀ b, Stab C.B ρ st.e w b → Stab C.B ρ e w b := fun b hb => ⟨hb.1, hb.2.1, fun m x hm => hb.2.2 m x (he _ _ hm)⟩
  have hself : Evo (Stab C.B ρ st.e w) (Stab C.B ρ e w) w w := ⟨fun b hb => ⟨hS b hb, rfl⟩, fun b n hb => hb⟩
  have hent := (hg.mem.en nm _ hnm).2
  obtain ⟨_, _, _, hcel, _, _⟩ := view_cells hent hr
  have hst : Stab C.B ρ e w (ρ nm) := by
    refine ⟨?_, hcel.lt, fun m x hm hq => ?_⟩
    · rcases hev.fresh nm _ hnm with ⟨m0, x0, h0, _⟩ | h
      · cases h0
      · exact C.big _ h
    · have := hg.mem.inj _ _ _ _ (he _ _ hm) hnm hq
      subst this
      rw [hno] at hm; cases hm
  refine ⟨ρ, Nm e, ⟨⟨fun m x hm => ⟨by simp [Nm, hm], ((hg.mem.en m x (he _ _ hm)).2.restrict (entsIn_get hne m x hm)).mono hself (fun n h => ⟨h, rfl⟩) rfl⟩, fun m m' x x' hm hm' hq => hg.mem.inj m m' x x' (he _ _ hm) (he _ _ hm') hq⟩, fun j x hj => ?_, hg.big, fun g x hx => (hg.gl g x hx).mono hself NoNm (fun _ h => h.elim)⟩,
    ⟨hd.1.stab hS, hd.2⟩, nmH_get hnn, ⟨⟨fun b hb => ⟨hS b (hev.evo.stable b hb).1, (hev.evo.stable b hb).2⟩, hev.evo.sized⟩, fun n hn => (by cases hn), fun m x hm => hev.fresh m x (he _ _ hm), hev.size, hev.os, hev.out, hev.tape, hev.others⟩⟩
  simp only [lk] at hj
  split at hj
  · next hq =>
    subst hq; cases hj
    obtain ⟨u, h1, h2⟩ := hg.tm _ _ hi
    obtain ⟨us, rfl, h3⟩ := h2.inv (fun l hl => by cases hl)
    have hrc : RC ρ (Stab C.B ρ e w) w (Nm e) v us := viewR_sound h3 hent hr hv hS hst
    cases r with
    | ints k xs =>
      simp only [viewR] at hv
      obtain ⟨_, hv⟩ := hv.req
      have hv := hv.ret
      subst hv
      exact ⟨_, h1, .one hrc⟩
    | strs ss =>
      simp only [viewR] at hv
      obtain ⟨_, hv⟩ := hv.req
      have hv := hv.ret
      subst hv
      exact ⟨_, h1, .one hrc⟩
    | avs s l =>
      simp only [viewR] at hv
      obtain ⟨_, hv⟩ := hv.req
      have hv := hv.ret
      subst hv
      exact ⟨_, h1, .one hrc⟩
  · next hq =>
    obtain ⟨u, h1, h2⟩ := hg.tm j x (ht _ _ hj)
    exact ⟨u, h1, (h2.restrict (hnt _ _ hj)).mono hself (fun n h => ⟨h, rfl⟩)⟩
/-- A method with the value itself as its receiver. -/
theorem MethOK.direct {T : TypeId} {name : String} {v : AV} {f : FuncId} (h1 : v.isTup = false) (hc : Callable P f) (hm : ∀ (x : Value) (w : World), (method (P.types.size + Made.depth) T x name).run P w = .ok (f, x) w) : MethOK P T name v f v :=
  ⟨h1, hc, fun ρ S w N cs hr => ⟨cs, hr, fun args => by
    simp only [callMethod, Sem.run_bind, show (program : Sem Program).run P w = .ok P w from rfl, Result.andThen_ok, hm]⟩⟩
end
end Sx
