/- Regions that draw their order: how they are walked. -/
import Derived.Test.YtakgcmponelbeaaDoorSxO
set_option linter.unusedVariables false
set_option linter.unusedSimpArgs false
namespace Sx
open Go

section
variable {P : Program} {tt : Nat → Option TI} {G : Nat → Option AV} {t t' : Tms} {e e' : Ents} {nb : Nat}

theorem evL_congr : ∀ {l : List Operand}, (∀ x ∈ l, ev G t x = ev G t' x) → evL G t l = evL G t' l
  | [], _ => rfl
  | x :: l, h => by simp only [evL]; rw [h x (by simp), evL_congr (l := l) (fun y hy => h y (by simp [hy]))]
theorem evP_congr : ∀ {l : List (Nat × Operand)}, (∀ i x, (i, x) ∈ l → ev G t x = ev G t' x) → evP G t l = evP G t' l
  | [], _ => rfl
  | (i, x) :: l, h => by simp only [evP]; rw [h i x (by simp), evP_congr (l := l) (fun j y hy => h j y (by simp [hy]))]
theorem bd_congr {x : Option Operand} (h : ∀ y, x = some y → ev G t y = ev G t' y) : bd G t x = bd G t' x := by
  cases x with
  | none => rfl
  | some y => simp only [bd]; rw [h y rfl]

theorem exOp_congr {o : Op} {K : AV → Del → Prop} (h : ∀ x ∈ o.operands, ev G t x = ev G t' x) : exOp P tt G t e nb o K = exOp P tt G t' e nb o K := by
  cases o
  case call c =>
    obtain ⟨cal, xs, ts⟩ := c
    cases cal with
    | value x =>
      simp only [exOp, exCall]
      rw [h x (by simp [Op.operands, Call.operands]), evL_congr (fun y hy => h y (by simp [Op.operands, Call.operands]; exact .inr (by simpa using hy)))]
    | invoke => rfl
    | builtin b =>
      simp only [exOp, exCall]
      rw [evL_congr (fun y hy => h y (by simp [Op.operands, Call.operands]; simpa using hy))]
  case slice T x lo hi mx =>
    cases mx with
    | some _ => rfl
    | none =>
      simp only [exOp, stepQ]
      rw [h x (by simp [Op.operands]), bd_congr (x := lo) (fun y hy => h y (by subst hy; simp [Op.operands])), bd_congr (x := hi) (fun y hy => h y (by subst hy; simp [Op.operands]))]
  case build T ps =>
    simp [Op.operands] at h
    simp only [exOp, stepQ]
    rw [evP_congr (fun i x hx => h x i (by simpa using hx))]
  case buildSlice T n ps =>
    simp [Op.operands] at h
    simp only [exOp, stepQ]
    rw [evP_congr (fun i x hx => h x i (by simpa using hx))]
  all_goals
    simp [Op.operands] at h
    simp only [exOp, stepQ, h]

theorem exOp_blind {o : Op} {K : AV → Del → Prop} (h : blind o = true) : exOp P tt G t e nb o K = exOp P tt G t e' nb o K := by
  cases o <;> simp only [blind, Bool.false_eq_true] at h <;> rfl

theorem onQ_pin {α : Type} {x : Q α} {K : α → Prop} (h : onQ x K) : ∃ a, K a ∧ onQ x (· = a) := by
  match x, h with
  | some (φ, a), h => exact ⟨a, h.2, h.1, rfl⟩
theorem onQ_imp {α : Type} {x : Q α} {K K' : α → Prop} (h : onQ x K) (hk : ∀ a, K a → K' a) : onQ x K' := by
  match x, h with
  | some (φ, a), h => exact ⟨h.1, hk _ h.2⟩
theorem exOp_pin {o : Op} {K : AV → Del → Prop} (h : exOp P tt G t e nb o K) : ∃ v d, K v d ∧ exOp P tt G t e nb o (fun v' d' => v' = v ∧ d' = d) := by
  by_cases hc : ∃ c, o = .call c
  · obtain ⟨c, rfl⟩ := hc
    obtain ⟨cal, xs, ts⟩ := c
    cases cal with
    | value x =>
      simp only [exOp, exCall] at h ⊢
      split at h
      · next f cap as hx has =>
        cases h with
        | fn h h' args args' F r hv hs hF hcal ht hle hn hi hf hk => exact ⟨r, _, hk, .fn h h' args args' F r hv hs hF hcal ht hle hn hi hf ⟨rfl, rfl⟩⟩
        | ext r hc hp hF hk => exact ⟨r, _, hk, .ext r hc hp hF ⟨rfl, rfl⟩⟩
      · exact h.elim
    | invoke => exact h.elim
    | builtin b =>
      simp only [exOp, exCall] at h ⊢
      split at h
      · next as has =>
        rcases h with h | h
        · obtain ⟨⟨v, d⟩, h1, h2⟩ := onQ_pin h
          exact ⟨v, d, h1, .inl (onQ_imp h2 (fun r hr => by cases hr; exact ⟨rfl, rfl⟩))⟩
        · obtain ⟨v, h1, h2⟩ := onQ_pin h
          exact ⟨v, [], h1, .inr (onQ_imp h2 (fun r hr => ⟨hr, rfl⟩))⟩
      · exact h.elim
  · have q : ∀ K, exOp P tt G t e nb o K = onQ (stepQ tt G t e nb o) fun r => K r.1 r.2 := by
      intro K
      cases o <;> first | rfl | exact absurd ⟨_, rfl⟩ hc
    rw [q] at h
    obtain ⟨⟨v, d⟩, h1, h2⟩ := onQ_pin h
    refine ⟨v, d, h1, ?_⟩
    rw [q]
    obtain ⟨a, h3, h4⟩ := onQ_spec h2
    subst h4
    match hx : stepQ tt G t e nb o, h2 with
    | some (φ, a), h2 => exact ⟨h2.1, by cases h2.2; exact ⟨rfl, rfl⟩⟩
end

/-- The value of a guard. -/
def gdV (all : List Oper) (t : Tms) (j : Nat) : Option AV := ((all[j]?).bind (·.dst)).bind (lk t)

/-- A region that draws, in the order of the text. -/
def exD (P : Program) (tt : Nat → Option TI) (G : Nat → Option AV) (all : List Oper) (n0 m : Nat) : List Oper → Infs → Tms → Ents → Nat → (St → Prop) → Prop
  | [], _, t, e, n, K => K ⟨t, e, n, m⟩
  | o :: rest, q :: A, t, e, n, K =>
    inB o.dst m ∧
    match o.guard with
    | none => exOp P tt G t (flI q n0 e) n o.op fun v d => ownB q.k n d ∧ exD P tt G all n0 m rest A (putT t o.dst v) (ap d e) (n + 16) K
    | some (j, want) =>
      match gdV all t j with
      | some (.bool b) => (b = want → exOp P tt G t (flI q n0 e) n o.op fun v d => ownB q.k n d ∧ exD P tt G all n0 m rest A (putT t o.dst v) (ap d e) (n + 16) K) ∧
          (b ≠ want → exD P tt G all n0 m rest A (putT t o.dst (.tup [])) e (n + 16) K)
      | _ => False
  | _ :: _, [], _, _, _, _ => False

section
variable {P : Program} {tt : Nat → Option TI} {G : Nat → Option AV} {ops : List Oper} {A : Infs} {n0 m : Nat}

/-- What the table tells of an operation. -/
def OpG (P : Program) (tt : Nat → Option TI) (G : Nat → Option AV) (ops : List Oper) (A : Infs) (n0 m : Nat) (t : Tms) (e : Ents) (V : Tab) (k : Nat) : Prop :=
  ∃ o, ops[k]? = some o ∧ inB o.dst m ∧ ownB (A.getD k default).k (n0 + 16 * k) (V k).2 ∧
    (((o.guard = none ∨ ∃ j want, o.guard = some (j, want) ∧ gdV ops (tF ops V t (List.range k)) j = some (.bool want)) ∧
        exOp P tt G (tF ops V t (List.range k)) (flI (A.getD k default) n0 (eF V e (List.range k))) (n0 + 16 * k) o.op (fun v d => v = (V k).1 ∧ d = (V k).2)) ∨
      (∃ j want b, o.guard = some (j, want) ∧ gdV ops (tF ops V t (List.range k)) j = some (.bool b) ∧ b ≠ want ∧ V k = (.tup [], [])))

theorem OpG.congr {t : Tms} {e : Ents} {V V' : Tab} {k : Nat} (h : ∀ j, j < k + 1 → V j = V' j) (hg : OpG P tt G ops A n0 m t e V k) : OpG P tt G ops A n0 m t e V' k := by
  have h1 : tF ops V' t (List.range k) = tF ops V t (List.range k) := tF_congr fun j hj => (h j (by have := List.mem_range.1 hj; omega)).symm
  have h2 : eF V' e (List.range k) = eF V e (List.range k) := eF_congr fun j hj => (h j (by have := List.mem_range.1 hj; omega)).symm
  unfold OpG
  rw [h1, h2, ← h k (by omega)]
  exact hg

theorem exD_tab {t : Tms} {e : Ents} {K : St → Prop} : ∀ (rest : List Oper) (i : Nat) (V : Tab), ops.drop i = rest → i ≤ ops.length →
    exD P tt G ops n0 m rest (A.drop i) (tF ops V t (List.range i)) (eF V e (List.range i)) (n0 + 16 * i) K →
    ∃ V' : Tab, (∀ j, j < i → V' j = V j) ∧ K ⟨tF ops V' t (List.range ops.length), eF V' e (List.range ops.length), n0 + 16 * ops.length, m⟩ ∧ ∀ k, i ≤ k → k < ops.length → OpG P tt G ops A n0 m t e V' k
  | [], i, V, hr, hi, h => by
    have : i = ops.length := by have := List.drop_eq_nil_iff.1 hr; omega
    subst this
    refine ⟨V, fun _ _ => rfl, ?_, fun k h1 h2 => by omega⟩
    simpa [exD] using h
  | o :: rest, i, V, hr, hi, h => by
    have hlt : i < ops.length := by
      rcases Nat.lt_or_ge i ops.length with h | h
      · exact h
      · rw [List.drop_of_length_le h] at hr; cases hr
    have ho : ops[i]? = some o := by
      have := congrArg (·[0]?) hr
      simpa using this
    have hrest : ops.drop (i + 1) = rest := by
      have := congrArg (List.drop 1) hr
      simpa [Nat.add_comm] using this
    cases hA : A.drop i with
    | nil => rw [hA] at h; simp [exD] at h
    | cons q A' =>
      have hq : A.getD i default = q := by
        have := congrArg (·[0]?) hA
        simp at this
        simp [this]
      have hA' : A.drop (i + 1) = A' := by
        have := congrArg (List.drop 1) hA
        simpa [Nat.add_comm] using this
      rw [hA] at h
      simp only [exD] at h
      obtain ⟨hm, h⟩ := h
      have go : ∀ v d, ownB q.k (n0 + 16 * i) d → exD P tt G ops n0 m rest A' (putT (tF ops V t (List.range i)) o.dst v) (ap d (eF V e (List.range i))) (n0 + 16 * i + 16) K →
          (∀ V' : Tab, (∀ j, j < i → V' j = V j) → V' i = (v, d) → OpG P tt G ops A n0 m t e V' i) →
          ∃ V' : Tab, (∀ j, j < i → V' j = V j) ∧ K ⟨tF ops V' t (List.range ops.length), eF V' e (List.range ops.length), n0 + 16 * ops.length, m⟩ ∧ ∀ k, i ≤ k → k < ops.length → OpG P tt G ops A n0 m t e V' k := by
        intro v d hown hk hop
        let V1 : Tab := fun j => if j = i then (v, d) else V j
        have hV1 : ∀ j, j < i → V1 j = V j := fun j hj => by simp only [V1]; rw [if_neg (by omega)]
        have e1 : tF ops V1 t (List.range (i + 1)) = putT (tF ops V t (List.range i)) o.dst v := by
          rw [List.range_succ, tF_append, tF_congr (V' := V) (fun j hj => hV1 j (List.mem_range.1 hj))]
          simp [tF, V1, dstOf, ho]
        have e2 : eF V1 e (List.range (i + 1)) = ap d (eF V e (List.range i)) := by
          rw [List.range_succ, eF_append, eF_congr (V' := V) (fun j hj => hV1 j (List.mem_range.1 hj))]
          simp [eF, V1]
        obtain ⟨V', k1, k2, k3⟩ := exD_tab rest (i + 1) V1 hrest (by omega) (by rw [hA', e1, e2]; exact hk)
        refine ⟨V', fun j hj => (k1 j (by omega)).trans (hV1 j hj), k2, fun k h1 h2 => ?_⟩
        by_cases hki : k = i
        · subst hki
          exact hop V' (fun j hj => (k1 j (by omega)).trans (hV1 j hj)) ((k1 k (by omega)).trans (by simp [V1]))
        · exact k3 k (by omega) h2
      have same : ∀ V' : Tab, (∀ j, j < i → V' j = V j) → tF ops V' t (List.range i) = tF ops V t (List.range i) ∧ eF V' e (List.range i) = eF V e (List.range i) :=
        fun V' hV => ⟨tF_congr fun j hj => hV j (List.mem_range.1 hj), eF_congr fun j hj => hV j (List.mem_range.1 hj)⟩
      have run : (o.guard = none ∨ ∃ j want, o.guard = some (j, want) ∧ gdV ops (tF ops V t (List.range i)) j = some (.bool want)) →
          (exOp P tt G (tF ops V t (List.range i)) (flI q n0 (eF V e (List.range i))) (n0 + 16 * i) o.op fun v d => ownB q.k (n0 + 16 * i) d ∧ exD P tt G ops n0 m rest A' (putT (tF ops V t (List.range i)) o.dst v) (ap d (eF V e (List.range i))) (n0 + 16 * i + 16) K) →
          ∃ V' : Tab, (∀ j, j < i → V' j = V j) ∧ K ⟨tF ops V' t (List.range ops.length), eF V' e (List.range ops.length), n0 + 16 * ops.length, m⟩ ∧ ∀ k, i ≤ k → k < ops.length → OpG P tt G ops A n0 m t e V' k := by
        intro hgd hop
        obtain ⟨v, d, ⟨k1, k2⟩, k3⟩ := exOp_pin hop
        refine go v d k1 k2 (fun V' hV hVi => ?_)
        obtain ⟨s1, s2⟩ := same V' hV
        refine ⟨o, ho, hm, by rw [hq, hVi]; exact k1, .inl ?_⟩
        rw [s1, s2, hVi, hq]
        exact ⟨hgd, k3⟩
      split at h
      · next hg => exact run (.inl hg) h
      · next j want hg =>
        split at h
        · next b hb =>
          by_cases hbw : b = want
          · subst hbw; exact run (.inr ⟨j, b, hg, hb⟩) (h.1 rfl)
          · refine go (.tup []) [] (by unfold ownB; split <;> simp [ownL, ownS]) (h.2 hbw) (fun V' hV hVi => ?_)
            obtain ⟨s1, s2⟩ := same V' hV
            refine ⟨o, ho, hm, by rw [hq, hVi]; unfold ownB; split <;> simp [ownL, ownS], .inr ⟨j, want, b, hg, by rw [s1]; exact hb, hbw, hVi⟩⟩
        · exact h.elim
end

end Sx
