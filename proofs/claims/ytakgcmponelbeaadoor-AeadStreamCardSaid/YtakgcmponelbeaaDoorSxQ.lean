/- Regions that draw their order: every order comes to the same. -/
import Derived.Test.YtakgcmponelbeaaDoorSxP
set_option linter.unusedVariables false
set_option linter.unusedSimpArgs false
namespace Sx
open Go

theorem Stab.lk_eq {B : Nat → Prop} {ρ : Nat → Nat} {e e' : Ents} {w : World} (h : ∀ k, lk e k = lk e' k) : Stab B ρ e w = Stab B ρ e' w := by
  funext b
  simp only [Stab, h]
theorem Good.lk_eq {B : Nat → Prop} {G : Nat → Option AV} {ρ : Nat → Nat} {D : Nat → Prop} {t t' : Tms} {e e' : Ents} {a : Act} {w : World} (ht : ∀ s, lk t s = lk t' s) (he : ∀ k, lk e k = lk e' k) (hg : Good B G ρ D t e a w) : Good B G ρ D t' e' a w := by
  have hs : Stab B ρ e' w = Stab B ρ e w := (Stab.lk_eq he).symm
  refine ⟨⟨fun m x hm => ?_, fun m m' x x' hm hm' hq => hg.mem.inj m m' x x' (by rw [he]; exact hm) (by rw [he]; exact hm') hq⟩, fun i x hi => ?_, hg.big, fun g x hx => ?_⟩
  · rw [hs]; exact hg.mem.en m x (by rw [he]; exact hm)
  · rw [hs]; exact hg.tm i x (by rw [ht]; exact hi)
  · rw [hs]; exact hg.gl g x hx
theorem Evol.lk_eq {B : Nat → Prop} {ρ ρ' : Nat → Nat} {D D' : Nat → Prop} {e e1 e2 : Ents} {w w' : World} (he : ∀ k, lk e1 k = lk e2 k) (h : Evol B ρ D e w ρ' D' e1 w') : Evol B ρ D e w ρ' D' e2 w' := by
  have hs : Stab B ρ' e2 w' = Stab B ρ' e1 w' := (Stab.lk_eq he).symm
  exact ⟨by rw [hs]; exact h.evo, h.agree, fun m x hm => h.fresh m x (by rw [he]; exact hm), h.size, h.os, h.out, h.tape, h.others⟩
theorem At.lk_eq {G : Nat → Option AV} {h : Ents} {C : Ctx} {t t' : Tms} {e e' : Ents} {n m : Nat} {a : Act} {w : World} (ht : ∀ s, lk t s = lk t' s) (he : ∀ k, lk e k = lk e' k) (ha : At G h C ⟨t, e, n, m⟩ a w) : At G h C ⟨t', e', n, m⟩ a w := by
  obtain ⟨ρ, D, h1, h2, h3, h4⟩ := ha
  exact ⟨ρ, D, h1.lk_eq ht he, h2, h3, h4.lk_eq he⟩

theorem Good.step {B : Nat → Prop} {G : Nat → Option AV} {ρ ρ' : Nat → Nat} {D D' : Nat → Prop} {t : Tms} {e e' : Ents} {a : Act} {w w' : World} {v : AV} {x : Value} {dst : Option Tmp}
    (hg : Good B G ρ D t e a w) (hm : inB dst a.tmps.size) (h2 : RV ρ' (Stab B ρ' e' w') w' D' v x) (h3 : Mem B ρ' D' e' w') (h4 : Evol B ρ D e w ρ' D' e' w') : Good B G ρ' D' (putT t dst v) e' (a.put dst x) w' := by
  refine ⟨h3, fun i y hi => ?_, fun b hb => hg.big b (Nat.le_trans h4.size hb), fun g y hy => (hg.gl g y hy).mono h4.evo NoNm (fun _ h => h.elim)⟩
  cases dst with
  | none =>
    obtain ⟨u, k1, k2⟩ := hg.tm i y hi
    exact ⟨u, k1, k2.mono h4.evo h4.agree⟩
  | some dd =>
    rw [lk_putT] at hi
    have hlt : dd < a.tmps.size := hm
    split at hi
    · next hq => subst hq; cases hi; exact ⟨x, by simp [Act.put, hlt], h2⟩
    · next hq =>
      obtain ⟨u, k1, k2⟩ := hg.tm i y hi
      exact ⟨u, by simp only [Act.put]; rw [Array.getElem?_setIfInBounds_ne hq]; exact k1, k2.mono h4.evo h4.agree⟩

/-- The state behind the listed operations. -/
def AtL (G : Nat → Option AV) (h : Ents) (C : Ctx) (ops : List Oper) (V : Tab) (n0 m : Nat) (t0 : Tms) (e0 : Ents) (L : Nat → Bool) (a : Act) (w : World) : Prop :=
  ∃ ρ D, Good C.B G ρ D (tF ops V t0 (idx ops.length L)) (eF V e0 (idx ops.length L)) a w ∧ (a.defers = [] ∧ a.tmps.size = m) ∧
    (∀ k, D k → k < n0 ∨ ∃ j, j < ops.length ∧ L j = true ∧ n0 + 16 * j ≤ k ∧ k < n0 + 16 * j + 16) ∧ Evol C.B C.ρ (Nm h) h C.w ρ D (eF V e0 (idx ops.length L)) w

theorem getD_set {l : Array Bool} {i : Nat} (hi : i < l.size) : (fun j => (l.setIfInBounds i true).getD j false) = ins (fun j => l.getD j false) i := by
  funext j
  simp only [ins]
  by_cases hj : j = i
  · subst hj; simp [Array.getD_eq_getD_getElem?, hi]
  · have : (j == i) = false := beq_eq_false_iff_ne.2 hj
    rw [this, Bool.false_or, Array.getD_eq_getD_getElem?, Array.getD_eq_getD_getElem?, Array.getElem?_setIfInBounds_ne (Ne.symm hj)]

theorem ready_spec {ops : List Oper} {listed : Array Bool} {i : Nat} (h : i ∈ Region.ready .any ops.toArray listed) : ∃ o, ops[i]? = some o ∧ listed.getD i true = false ∧ ∀ x ∈ o.after, Region.binds .any x = true → listed.getD x.on false = true := by
  simp only [Region.ready, List.mem_filter, List.mem_range, Bool.and_eq_true, Bool.not_eq_true', List.size_toArray, List.getElem?_toArray] at h
  obtain ⟨h1, h2, h3⟩ := h
  refine ⟨ops[i], List.getElem?_eq_getElem h1, h2, fun x hx hb => ?_⟩
  rw [List.getElem?_eq_getElem h1] at h3
  simp only [Option.map_some, Option.getD_some] at h3
  rw [Array.all_eq_true_iff_forall_mem] at h3
  have := h3 x hx
  rw [hb] at this
  simpa using this
theorem ready_of {ops : List Oper} {listed : Array Bool} {i : Nat} {o : Oper} (ho : ops[i]? = some o) (hl : listed.getD i true = false) (hx : ∀ x ∈ o.after, Region.binds .any x = true → listed.getD x.on false = true) : i ∈ Region.ready .any ops.toArray listed := by
  have hi := (List.getElem?_eq_some_iff.1 ho).1
  simp only [Region.ready, List.mem_filter, List.mem_range, Bool.and_eq_true, Bool.not_eq_true', List.size_toArray, List.getElem?_toArray]
  refine ⟨hi, hl, ?_⟩
  rw [ho]
  simp only [Option.map_some, Option.getD_some]
  rw [Array.all_eq_true_iff_forall_mem]
  intro x hm
  cases hb : Region.binds .any x with
  | false => rfl
  | true => simpa using hx x hm hb

section
variable {P : Program} {tt : Nat → Option TI} {G : Nat → Option AV} {ops : List Oper} {A : Infs} {n0 m : Nat}

theorem all_of_not_ready (hOK : drawOK ops A = true) {listed : Array Bool} (hs : listed.size = ops.length) (hr : Region.ready .any ops.toArray listed = []) : ∀ i, i < ops.length → listed.getD i false = true := by
  intro i
  induction i using Nat.strongRecOn with
  | ind i ih =>
    intro hi
    have ho := List.getElem?_eq_getElem hi
    cases hl : listed.getD i false with
    | true => rfl
    | false =>
      have : i ∈ Region.ready .any ops.toArray listed := by
        refine ready_of ho ?_ (fun x hx hb => ?_)
        · have : i < listed.size := by omega
          simp [Array.getD_eq_getD_getElem?, this] at hl ⊢; exact hl
        · have := (drawOK_get hOK ho).pre x hx hb
          exact ih x.on this (by omega)
      rw [hr] at this; cases this

theorem draw_any (hTT : TT P tt) (hOK : drawOK ops A = true) {h : Ents} {C : Ctx} {t0 : Tms} {e0 : Ents} {V : Tab} (hV : ∀ k, k < ops.length → OpG P tt G ops A n0 m t0 e0 V k) {Q : Exit → Act → World → Prop}
    (hQ : ∀ a w, At G h C ⟨tF ops V t0 (List.range ops.length), eF V e0 (List.range ops.length), n0 + 16 * ops.length, m⟩ a w → Q .normal a w) :
    ∀ (fuel : Nat) (listed : Array Bool) (a : Act) (w : World), listed.size = ops.length → ((List.range ops.length).filter fun j => !listed.getD j false).length = fuel → Down A ops.length (fun j => listed.getD j false) →
      AtL G h C ops V n0 m t0 e0 (fun j => listed.getD j false) a w → wpAny P .any ops.toArray Q fuel listed a w := by
  have hown : ∀ i, i < ops.length → ownB (A.getD i default).k (n0 + 16 * i) (V i).2 := fun i hi => by
    obtain ⟨_, _, _, h, _⟩ := hV i hi; exact h
  have fin : ∀ (listed : Array Bool) (a : Act) (w : World), AtL G h C ops V n0 m t0 e0 (fun j => listed.getD j false) a w → (∀ i, i < ops.length → listed.getD i false = true) → Q .normal a w := by
    intro listed a w ha hall
    obtain ⟨ρ, D, h1, h2, h3, h4⟩ := ha
    have : idx ops.length (fun j => listed.getD j false) = List.range ops.length := List.filter_eq_self.2 fun j hj => hall j (List.mem_range.1 hj)
    rw [this] at h1 h4
    refine hQ a w ⟨ρ, D, h1, h2, fun k hk => ?_, h4⟩
    rcases h3 k hk with h | ⟨j, h5, _, _, h6⟩
    · show k < n0 + 16 * ops.length; omega
    · show k < n0 + 16 * ops.length; omega
  intro fuel
  induction fuel with
  | zero =>
    intro listed a w hs hf hd ha
    have hall : ∀ i, i < ops.length → listed.getD i false = true := fun i hi => by
      cases hl : listed.getD i false with
      | true => rfl
      | false =>
        have : i ∈ (List.range ops.length).filter fun j => !listed.getD j false := List.mem_filter.2 ⟨List.mem_range.2 hi, by rw [hl]; rfl⟩
        rw [List.length_eq_zero_iff.1 hf] at this; cases this
    refine ⟨?_, fin listed a w ha hall⟩
    apply List.eq_nil_iff_forall_not_mem.2
    intro i hi
    obtain ⟨o, ho, hl, _⟩ := ready_spec hi
    have hlt := (List.getElem?_eq_some_iff.1 ho).1
    have := hall i hlt
    have hlt' : i < listed.size := by omega
    simp [Array.getD_eq_getD_getElem?, hlt'] at hl this
    rw [hl] at this; cases this
  | succ fuel ih =>
    intro listed a w hs hf hd ha
    refine ⟨fun hr => fin listed a w ha (all_of_not_ready hOK hs hr), fun i hi => ?_⟩
    obtain ⟨o, ho, hl, hpre⟩ := ready_spec hi
    have hlt := (List.getElem?_eq_some_iff.1 ho).1
    have hlt' : i < listed.size := by omega
    have hLi : listed.getD i false = false := by
      simp [Array.getD_eq_getD_getElem?, hlt'] at hl ⊢; exact hl
    have K := drawOK_get hOK ho
    have hanc : ∀ j, isA A j i = true → listed.getD j false = true := by
      intro j hj
      obtain ⟨k1, x, hx, hb, hq⟩ := K.lt j hj
      have hxl := hpre x hx hb
      rcases hq with hq | hq
      · rw [← hq]; exact hxl
      · exact hd x.on (by have := K.pre x hx hb; omega) hxl j hq
    have hd' : Down A ops.length (fun j => (listed.setIfInBounds i true).getD j false) := by
      rw [getD_set hlt']
      intro k hk hLk j hj
      simp only [ins, Bool.or_eq_true, beq_iff_eq] at hLk ⊢
      rcases hLk with rfl | hLk
      · exact .inr (hanc j hj)
      · exact .inr (hd k hk hLk j hj)
    have hf' : ((List.range ops.length).filter fun j => !(listed.setIfInBounds i true).getD j false).length = fuel := by
      have e1 : ∀ j, (listed.setIfInBounds i true).getD j false = (j == i || listed.getD j false) := fun j => congrFun (getD_set hlt') j
      have e2 : ((List.range ops.length).filter fun j => !(listed.setIfInBounds i true).getD j false) = ((List.range ops.length).filter fun j => !listed.getD j false).erase i := by
        rw [List.Nodup.erase_eq_filter (List.Pairwise.filter _ List.nodup_range), List.filter_filter]
        apply List.filter_congr
        intro j _
        rw [e1]
        by_cases hj : j = i
        · subst hj; simp
        · have q1 : (j == i) = false := beq_eq_false_iff_ne.2 hj
          have q2 : (j != i) = true := by simp [hj]
          rw [q1, q2]; simp
      rw [e2, List.length_erase_of_mem (List.mem_filter.2 ⟨List.mem_range.2 hlt, by rw [hLi]; rfl⟩), hf]
      rfl
    obtain ⟨ρ, D, hg, had, hD, hev⟩ := id ha
    -- the state behind the operation
    have next : ∀ (x : Value) (w' : World) (ρ' : Nat → Nat) (D' : Nat → Prop), inB o.dst m → (∀ n, D' n → D n ∨ (n0 + 16 * i ≤ n ∧ n < n0 + 16 * i + 16)) →
        RV ρ' (Stab C.B ρ' (ap (V i).2 (eF V e0 (idx ops.length fun j => listed.getD j false))) w') w' D' (V i).1 x → Mem C.B ρ' D' (ap (V i).2 (eF V e0 (idx ops.length fun j => listed.getD j false))) w' →
        Evol C.B ρ D (eF V e0 (idx ops.length fun j => listed.getD j false)) w ρ' D' (ap (V i).2 (eF V e0 (idx ops.length fun j => listed.getD j false))) w' →
        wpAny P .any ops.toArray Q fuel (listed.setIfInBounds i true) (a.put o.dst x) w' := by
      intro x w' ρ' D' hm h1 h2 h3 h4
      refine ih _ _ _ (by simpa using hs) hf' hd' ?_
      have hg' := hg.step (dst := o.dst) (by rw [had.2]; exact hm) h2 h3 h4
      have ht : ∀ s, lk (putT (tF ops V t0 (idx ops.length fun j => listed.getD j false)) o.dst (V i).1) s = lk (tF ops V t0 (idx ops.length fun j => (listed.setIfInBounds i true).getD j false)) s := fun s => by
        rw [getD_set hlt']; exact (ins_t hOK ho hd hLi t0 s).symm
      have he : ∀ k, lk (ap (V i).2 (eF V e0 (idx ops.length fun j => listed.getD j false))) k = lk (eF V e0 (idx ops.length fun j => (listed.setIfInBounds i true).getD j false)) k := fun k => by
        rw [getD_set hlt']; exact (ins_e hOK hown ho hd hLi e0 k).symm
      refine ⟨ρ', D', hg'.lk_eq ht he, ?_, fun k hk => ?_, (hev.trans h4).lk_eq he⟩
      · cases hdst : o.dst <;> exact ⟨had.1, by simpa [Act.put] using had.2⟩
      · rcases h1 k hk with h | h
        · rcases hD k h with h | ⟨j, q1, q2, q3⟩
          · exact .inl h
          · refine .inr ⟨j, q1, ?_, q3⟩
            show (listed.setIfInBounds i true).getD j false = true
            rw [congrFun (getD_set hlt') j]; simp only [ins]; rw [show listed.getD j false = true from q2]; simp
        · refine .inr ⟨i, hlt, ?_, h⟩
          show (listed.setIfInBounds i true).getD i false = true
          rw [congrFun (getD_set hlt') i]; simp [ins]
    obtain ⟨o', ho', hm, hwn, hcase⟩ := hV i hlt
    rw [ho] at ho'; cases ho'
    have lookt : ∀ s ∈ o.looksAt ops.toArray, lk (tF ops V t0 (List.range i)) s = lk (tF ops V t0 (idx ops.length fun j => listed.getD j false)) s := fun s hs => loc_t hOK ho hd hLi hanc t0 hs
    have gval : ∀ j want b, o.guard = some (j, want) → gdV ops (tF ops V t0 (List.range i)) j = some (.bool b) → yielded ops.toArray a.tmps j = some b := by
      intro j want b hgd hb
      unfold gdV at hb
      rw [Option.bind_eq_some_iff] at hb
      obtain ⟨dj, hd1, hd2⟩ := hb
      rw [lookt dj (by simp only [Oper.looksAt, hgd]; simp [hd1])] at hd2
      obtain ⟨v, hv1, hv2⟩ := hg.tm _ _ hd2
      rw [hv2.bool_inv] at hv1
      unfold yielded
      have : (ops.toArray[j]?).bind (·.dst) = some dj := by simpa using hd1
      rw [this, Option.bind_some, hv1]
    unfold wpOp
    have hoA : ops.toArray[i]? = some o := by simpa using ho
    rw [hoA]
    rcases hcase with ⟨hgd, hop⟩ | ⟨j, want, b, hgd, hb, hbw, hVi⟩
    · have hw : Region.wanted o (yielded ops.toArray a.tmps) = true := by
        rcases hgd with hgd | ⟨j, want, hgd, hb⟩
        · simp [Region.wanted, hgd]
        · simp [Region.wanted, hgd, gval j want want hgd hb]
      show if Region.wanted o (yielded ops.toArray a.tmps) = true then _ else _
      rw [if_pos hw]
      refine .inl ?_
      -- the operation, in the state at hand
      have hop' : ∃ e1, Le e1 (eF V e0 (idx ops.length fun j => listed.getD j false)) ∧
          exOp P tt G (tF ops V t0 (idx ops.length fun j => listed.getD j false)) e1 (n0 + 16 * i) o.op (fun v d => v = (V i).1 ∧ d = (V i).2) := by
        have hc : ∀ x ∈ o.op.operands, ev G (tF ops V t0 (List.range i)) x = ev G (tF ops V t0 (idx ops.length fun j => listed.getD j false)) x := by
          intro x hx
          cases x with
          | tmp s =>
            simp only [ev]
            refine lookt s ?_
            simp only [Oper.looksAt, List.mem_append, List.mem_filterMap]
            exact .inl ⟨.tmp s, by simpa using hx, rfl⟩
          | _ => rfl
        rw [exOp_congr hc] at hop
        cases hbl : blind o.op with
        | true => exact ⟨_, fun _ _ h => h, by rw [exOp_blind hbl] at hop; exact hop⟩
        | false => exact ⟨_, loc_e hOK hown ho hbl hd hLi hanc e0, hop⟩
      obtain ⟨e1, hle, hop'⟩ := hop'
      obtain ⟨v, d, ⟨rfl, rfl⟩, hs'⟩ := exOp_sound (dst := o.dst) (ty := o.type) (pos := o.pos) (after := o.after) (gd := o.guard) hTT hop'
      refine (hs' C.B ρ D _ _ a w (fun _ _ h => h) hle hg (fun n h1 h2 hn => ?_)).wp (fun x w' hp => ?_)
      · rcases hD n hn with h | ⟨j, q1, q2, q3, q4⟩
        · omega
        · have : j = i := by omega
          subst this
          rw [show listed.getD j false = true from q2] at hLi; cases hLi
      · obtain ⟨ρ', D', h1, h2, h3, h4⟩ := hp
        exact next x w' ρ' D' hm h1 h2 h3 h4
    · have hw : ¬ Region.wanted o (yielded ops.toArray a.tmps) = true := by
        simp [Region.wanted, hgd, gval j want b hgd hb, hbw]
      show if Region.wanted o (yielded ops.toArray a.tmps) = true then _ else _
      rw [if_neg hw]
      refine next undef w ρ D hm (fun n h => .inl h) ?_ ?_ ?_
      · rw [hVi]; exact .unit
      · rw [hVi]; exact hg.mem
      · rw [hVi]; exact Evol.refl w

theorem none_listed (n j : Nat) : (Array.replicate n false).getD j false = false := by
  rw [Array.getD_eq_getD_getElem?, Array.getElem?_replicate]; split <;> rfl

theorem exD_sound (hmix : P.follows .mixedOrders = true) (hTT : TT P tt) (hOK : drawOK ops A = true) {h : Ents} {id : Nat} {st : St} {Q : Exit → St → Prop}
    (hk : exD P tt G ops st.n st.m ops A st.t st.e st.n (Q .normal)) : W P G h (.region id ops.toArray true) st Q := by
  intro C a w ha
  obtain ⟨V, _, hK, hV⟩ := exD_tab (P := P) (tt := tt) (G := G) (ops := ops) (A := A) (t := st.t) (e := st.e) ops 0 (fun _ => (.tup [], [])) rfl (Nat.zero_le _) (by simpa [tF, eF] using hk)
  refine wp_region_any hmix ?_
  obtain ⟨ρ, D, hg, hd, hD, hev⟩ := ha
  refine draw_any hTT hOK (fun k hk => hV k (Nat.zero_le _) hk) (fun a' w' ha' => ⟨_, hK, ha'⟩) _ _ _ _ (by simp) ?_ ?_ ?_ (h := h) (C := C)
  · rw [List.filter_eq_self.2 (fun j _ => by rw [none_listed]; rfl)]; simp
  · intro i _ hL
    exact absurd (hL.symm.trans (none_listed _ i)) (by simp)
  · have hidx : idx ops.length (fun j => (Array.replicate ops.toArray.size false).getD j false) = [] :=
      List.filter_eq_nil_iff.2 (fun j _ => by rw [none_listed]; simp)
    obtain ⟨hm2, hev2⟩ := hg.mem.same (w' := { w with drawn := w.drawn + 1 }) rfl rfl rfl rfl
    refine ⟨ρ, D, ?_, hd, fun k hk => .inl (hD k hk), ?_⟩
    · rw [hidx]
      exact ⟨hm2, fun i x hi => (let ⟨v, h1, h2⟩ := hg.tm i x hi; ⟨v, h1, h2.mono hev2.evo hev2.agree⟩), hg.big, fun g y hy => (hg.gl g y hy).mono hev2.evo NoNm (fun _ h => h.elim)⟩
    · rw [hidx]
      exact hev.trans hev2

theorem W.drawK (A : Infs) (hmix : P.follows .mixedOrders = true) (hTT : TT P tt) (hOK : drawOK ops A = true) {h : Ents} {id : Nat} {st : St} {K : St → Prop} {Q : Exit → St → Prop}
    (hk : exD P tt G ops st.n st.m ops A st.t st.e st.n K) : W P G h (.region id ops.toArray true) st (thn K Q) :=
  exD_sound hmix hTT hOK hk
end

end Sx
