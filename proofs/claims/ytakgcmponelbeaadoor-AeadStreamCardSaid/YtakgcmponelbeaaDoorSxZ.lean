/- From a contract to a statement. -/
import Derived.Test.YtakgcmponelbeaaDoorSxY
import Derived.ProofKit
set_option linter.unusedVariables false
set_option linter.unusedSimpArgs false
namespace Sx
open Go

section
variable {H : Type} {enc : TypeId × Value → H} {P : Program} {W : World} {ρ : Nat → Nat} {S : Nat → Prop}

/-- The arguments, by their types' shapes. -/
def OpnAs (P : Program) : List TypeId → List Sh → List AV → Prop
  | [], _, l => l = []
  | t :: ts, ss, l => ∃ s r cs l', ss = s :: r ∧ l = oneA (isAg P t) cs :: l' ∧ Opn s cs ∧ OpnAs P ts r l'

theorem OpnAs.cons {P : Program} {t : TypeId} {ts : List TypeId} {s : Sh} {r : List Sh} {l : List AV} (h : OpnAs P (t :: ts) (s :: r) l) : ∃ cs l', l = oneA (isAg P t) cs :: l' ∧ Opn s cs ∧ OpnAs P ts r l' := by
  obtain ⟨s', r', cs, l', hs, h1, h2, h3⟩ := h
  cases hs
  exact ⟨cs, l', h1, h2, h3⟩

theorem okWide_cells {t : TypeId} {v : Value} {n : Nat} {sh : Sh} (hsh : shOf P n t = some sh) (h : Value.okWide P W .any 0 t v) : (isAg P t = true ∧ v = .agg v.cells) ∨ (isAg P t = false ∧ v.cells = #[v]) := by
  cases n with
  | zero => cases hsh
  | succ n =>
    unfold shOf at hsh
    unfold isAg
    split at hsh
    · next k hu => right; rw [hu]; obtain ⟨x, rfl⟩ := WideShapes.okWide_int hu h; exact ⟨rfl, rfl⟩
    · next hu => right; rw [hu]; obtain ⟨x, rfl⟩ := WideShapes.okWide_bool hu h; exact ⟨rfl, rfl⟩
    · next hu => right; rw [hu]; obtain ⟨x, rfl⟩ := WideShapes.okWide_string hu h; exact ⟨rfl, rfl⟩
    · next e hu => right; rw [hu]; obtain ⟨a, l, c, rfl⟩ := WideShapes.okWide_slice hu h; exact ⟨rfl, rfl⟩
    · next m e hu =>
      left; rw [hu]
      simp only [Value.okWide, hu] at h
      obtain ⟨cs, rfl, _⟩ := h
      exact ⟨rfl, rfl⟩
    · next fs hu =>
      left; rw [hu]
      simp only [Value.okWide, hu] at h
      obtain ⟨cs, rfl, _⟩ := h
      exact ⟨rfl, rfl⟩
    · cases hsh

theorem open_args (hS : ∀ b, b < W.heap.size → S b) {n : Nat} {sp : Nat → Bool} {held : Bool} : ∀ (ts : List TypeId) (shs : List Sh) (vs : List Value) (ds : List (DataW H)) (ps : List MemPlace), ts.mapM (shOf P n) = some shs →
    DataW.TrodAll enc P W 0 sp held ts vs ds ps → (∀ (j : Nat) t v, ts[j]? = some t → vs[j]? = some v → Value.okWide P W .any 0 t v) →
    ∃ avs, OpnAs P ts shs avs ∧ vs.length = avs.length ∧ ∀ (i : Nat) x, avs[i]? = some x → ∃ v, vs[i]? = some v ∧ RV ρ S W NoNm x v
  | [], shs, vs, ds, ps, hm, ht, _ => by
    cases vs with
    | nil => exact ⟨[], rfl, rfl, fun i x h => by simp at h⟩
    | cons v vs => exact (by simp [DataW.TrodAll] at ht)
  | t :: ts, shs, vs, ds, ps, hm, ht, hv => by
    rw [List.mapM_cons] at hm
    simp only [Option.bind_eq_bind, Option.bind_eq_some_iff] at hm
    obtain ⟨s, hs, ss, hss, he⟩ := hm
    cases he
    match vs, ds, ht with
    | v :: vs, d :: ds, ht =>
      obtain ⟨p, q, h1, h2, rfl⟩ := ht
      obtain ⟨fuel, h1⟩ := h1
      obtain ⟨l, hl, hrc⟩ := open_sh (ρ := ρ) hS n t s hs fuel _ _ h1
      obtain ⟨avs, k1, k2, k3⟩ := open_args hS ts ss vs ds q hss h2 (fun j t v hj hj' => hv (j + 1) t v (by simpa using hj) (by simpa using hj'))
      have hok := hv 0 t v rfl rfl
      refine ⟨oneA (isAg P t) l :: avs, ⟨s, ss, l, avs, rfl, rfl, hl, k1⟩, by simp [k2], fun i x hi => ?_⟩
      cases i with
      | succ i => simpa using k3 i x (by simpa using hi)
      | zero =>
        simp at hi
        subst hi
        refine ⟨v, rfl, ?_⟩
        rcases okWide_cells hs hok with ⟨ha, hc⟩ | ⟨ha, hc⟩
        · rw [ha]
          have := RV.one hrc
          rw [shape] at this
          simp only [AV.isAgg, cond_true] at this
          rw [hc]
          simpa [oneA] using this
        · rw [ha]
          obtain ⟨a, rfl, hag⟩ := Opn.single hs hl ha
          rw [hc] at hrc
          have := RV.one (RC.un1 hrc)
          rw [shape, hag] at this
          simpa [oneA] using this

theorem lawPost {f : Func} {F : FuncId} {s : ChangeSpec} {args : Array Value} {ds gs : List (DataW H)} {before : List MemPlace} {apart : Bool} {tb : TypeId} {shs : List Sh} {n : Nat} {G : Nat → Option AV}
    (hl : laidOutB P = true) (hty : f.params.toList.all (fun t => P.readableRec t && decide (t < P.types.size)) = true)
    (hres : f.resultTypes = #[tb]) (hub : P.underlying tb = some .bool) (hvars : s.vars = [])
    (hs : (s.fn H (ds ++ gs)).results = [.lit (.bool true)] ∧ (s.fn H (ds ++ gs)).args = ds ∧ (s.fn H (ds ++ gs)).vars = [])
    (hval : ∀ (j : Nat) t v, f.params[j]? = some t → args[j]? = some v → Value.okWide P W .any 0 t v)
    (hW : DataW.Whole enc P f.params.toList s.vars apart W args.toList ds gs before)
    (hsh : f.params.toList.mapM (shOf P n) = some shs)
    (hG : GL G id (fun b => b < W.heap.size) W)
    (hF : ∀ avs, OpnAs P f.params.toList shs avs → FnR P G F avs [] (.bool true) []) :
    Calls P F args W fun e W' => ∃ v, e = .returned v ∧ s.post enc P f apart true false false W args v W' := by
  have hW' := hW
  obtain ⟨p, q, hA, hV, hpq, _, _⟩ := hW
  have hlt : ∀ x ∈ before, x.block < W.heap.size := fun x hx => by simpa using hW'.lt x hx
  have hSt : ∀ b, Stab (fun _ => True) id [] W b ↔ b < W.heap.size := fun b => ⟨fun h => h.2.1, fun h => ⟨trivial, h, fun m x hx => by simp [lk] at hx⟩⟩
  have hSt' : Stab (fun _ => True) id [] W = fun b => b < W.heap.size := funext fun b => propext (hSt b)
  obtain ⟨avs, h1, h2, h3⟩ := open_args (ρ := id) (S := fun b => b < W.heap.size) (fun b hb => hb) f.params.toList shs args.toList ds p hsh hA (fun j t v hj hv => hval j t v (by simpa using hj) (by simpa using hv))
  have hmem : Mem (fun _ => True) id (Nm []) [] W := ⟨fun m x hx => by simp [lk] at hx, fun m m' x x' hx => by simp [lk] at hx⟩
  have hc := hF avs h1 (fun _ => True) id W args.toList (fun _ _ => trivial) hmem (by rw [hSt']; exact hG) h2 (fun i x hx => by
    obtain ⟨v, k1, k2⟩ := h3 i x hx
    refine ⟨v, k1, ?_⟩
    rw [hSt']
    exact k2.mono (Evo.refl W) (fun n hn => hn.elim))
  rw [Array.toArray_toList] at hc
  refine hc.mono fun e W' hq => ?_
  obtain ⟨x, ρ', rfl, hr, _, hk⟩ := hq
  have hb : RowKit.Below W.heap.size W W' := ⟨hk.os, hk.tape, hk.out, hk.size, fun k hk' => hk.others k hk' (fun m x hx => by simp [lk] at hx)⟩
  cases hr with
  | one hr =>
    cases hr
    refine ⟨_, rfl, ds, gs, before, [], p, [], hW', ?_, ?_, ?_, hb.frame _, fun h => by cases h⟩
    · rw [hs.1, hres]
      exact ChangeShapes.trodAll_mk1 (RowKit.shut_bool hub true)
    · rw [hs.2.1]
      have go : ∀ (ts : List TypeId) (vs : List Value) (ds : List (DataW H)) (ps : List MemPlace), ts.all (fun t => P.readableRec t && decide (t < P.types.size)) = true → (∀ x ∈ ps, x.block < W.heap.size) →
          DataW.TrodAll enc P W 0 (fun _ => true) true ts vs ds ps → DataW.TrodAll enc P W' 0 (fun b => decide (b < W.heap.size)) true ts vs ds ps := by
        intro ts
        induction ts with
        | nil => intro vs ds ps _ _ h; cases vs <;> cases ds <;> simp_all [DataW.TrodAll]
        | cons t ts ih =>
          intro vs ds ps ht hp h
          match vs, ds, h with
          | v :: vs, d :: ds, h =>
            obtain ⟨a, b, h1, h2, rfl⟩ := h
            simp only [List.all_cons, Bool.and_eq_true, decide_eq_true_eq] at ht
            exact ⟨a, b, RowKit.Below.trod hl ht.1.1 ht.1.2 h1 hb (fun x hx => hp x (by simp [hx])), ih vs ds b (by simpa using ht.2) (fun x hx => hp x (by simp [hx])) h2, rfl⟩
      refine go _ _ _ _ hty (fun x hx => hlt x ?_) hA
      rw [hpq]; simp [hx]
    · rw [hs.2.2, hvars]
      exact rfl

theorem trodAll_len : ∀ {ts : List TypeId} {vs : List Value} {ds : List (DataW H)} {ps : List MemPlace} {base : Nat} {sp : Nat → Bool} {held : Bool}, DataW.TrodAll enc P W base sp held ts vs ds ps → ds.length = ts.length
  | [], [], [], _, _, _, _, _ => rfl
  | t :: ts, v :: vs, d :: ds, _, _, _, _, h => by
    obtain ⟨a, b, _, h2, _⟩ := h
    simp [trodAll_len h2]
end
theorem InK.u8 {n : Int} (h : InK .u8 n) : 0 ≤ n ∧ n < 256 := by
  simp [InK, IntKind.min, IntKind.max, IntKind.signed, IntKind.bits] at h; omega
theorem InK.u16 {n : Int} (h : InK .u16 n) : 0 ≤ n ∧ n < 65536 := by
  simp [InK, IntKind.min, IntKind.max, IntKind.signed, IntKind.bits] at h; omega
theorem InK.u32 {n : Int} (h : InK .u32 n) : 0 ≤ n ∧ n < 4294967296 := by
  simp [InK, IntKind.min, IntKind.max, IntKind.signed, IntKind.bits] at h; omega
theorem InK.u64 {n : Int} (h : InK .u64 n) : 0 ≤ n ∧ n < 18446744073709551616 := by
  simp [InK, IntKind.min, IntKind.max, IntKind.signed, IntKind.bits] at h; omega
theorem InK.i64 {n : Int} (h : InK .i64 n) : -9223372036854775808 ≤ n ∧ n < 9223372036854775808 := by
  simp [InK, IntKind.min, IntKind.max, IntKind.signed, IntKind.bits] at h; omega
end Sx
