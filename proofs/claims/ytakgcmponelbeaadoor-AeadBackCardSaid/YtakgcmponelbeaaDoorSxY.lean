/- What the arguments of a statement read as. -/
import Derived.Test.YtakgcmponelbeaaDoorSxX
import Derived.OpenShut
import Derived.Carry
set_option linter.unusedVariables false
set_option linter.unusedSimpArgs false
namespace Sx
open Go

/-- Names of what a call makes, exchanged. -/
theorem Nm.swap {a b : Nat} {h : Ents} : Nm (enMap (swp a b) h) = fun n => Nm h (swp a b n) := by
  funext n
  unfold Nm
  rw [lk_enMap]
  simp
theorem FnR.rename {P : Program} {G : Nat → Option AV} {f : FuncId} {args : List AV} {r : AV} {h' : Ents} (a b : Nat) (hF : FnR P G f args [] r h') : FnR P G f args [] (r.map (swp a b)) (enMap (swp a b) h') := by
  intro B ρ w vs hb hm hg hl ha
  refine (hF B ρ w vs hb hm hg hl ha).mono ?_
  rintro e w' ⟨x, ρ', rfl, hr, hmem, hk⟩
  have hS : Stab B (fun n => ρ' (swp a b n)) (enMap (swp a b) h') w' = Stab B ρ' h' w' := Stab.swap
  refine ⟨x, fun n => ρ' (swp a b n), rfl, ?_, ⟨fun m y hy => ?_, fun m m' y y' hy hy' hq => ?_⟩, ⟨?_, fun n hn _ => (by cases hn), fun m y hy => ?_, hk.size, hk.os, hk.out, hk.tape, hk.others⟩⟩
  · rw [hS, Nm.swap]; exact hr.swap
  · rw [hS, Nm.swap]
    rw [lk_enMap, Option.map_eq_some_iff] at hy
    obtain ⟨z, hz, rfl⟩ := hy
    exact ⟨(hmem.en _ z hz).1, (hmem.en _ z hz).2.swap⟩
  · rw [lk_enMap, Option.map_eq_some_iff] at hy hy'
    obtain ⟨z, hz, rfl⟩ := hy
    obtain ⟨z', hz', rfl⟩ := hy'
    have := congrArg (swp a b) (hmem.inj _ _ _ _ hz hz' hq)
    simpa only [swp_swp] using this
  · rw [hS]; exact hk.evo
  · rw [lk_enMap, Option.map_eq_some_iff] at hy
    obtain ⟨z, hz, rfl⟩ := hy
    exact hk.fresh _ z hz

mutual
theorem AV.map_swp2 (a b : Nat) : ∀ x : AV, (x.map (swp a b)).map (swp a b) = x
  | .int _ _ | .bool _ | .str _ | .ints _ _ _ | .pel _ | .nils | .nilp | .nilf | .nili | .nilm | .lstI _ _ | .lstS _ | .lst _ _ => by simp [AV.map]
  | .ptr _ _ _ _ | .sl _ _ _ _ | .mp _ => by simp [AV.map, swp_swp]
  | .agg cs => by simp only [AV.map, AV.mapL_swp2 a b cs]
  | .tup l => by simp only [AV.map, AV.mapL_swp2 a b l]
  | .fn f cap => by simp only [AV.map, AV.mapL_swp2 a b cap]
  | .ifc t v => by simp only [AV.map, AV.map_swp2 a b v]
theorem AV.mapL_swp2 (a b : Nat) : ∀ l : List AV, AV.mapL (swp a b) (AV.mapL (swp a b) l) = l
  | [] => rfl
  | x :: l => by simp only [AV.mapL, AV.map_swp2 a b x, AV.mapL_swp2 a b l]
end
theorem Row.map_swp2 (a b : Nat) (r : Row) : (r.map (swp a b)).map (swp a b) = r := by
  cases r <;> simp [Row.map, AV.mapL_swp2]
theorem Ent.map_swp2 (a b : Nat) (x : Ent) : (x.map (swp a b)).map (swp a b) = x := by
  cases x <;> simp [Ent.map, AV.map_swp2, Row.map_swp2]
/-- A contract with other names. -/
theorem FnR.swap {P : Program} {G : Nat → Option AV} {f : FuncId} {args : List AV} {h : Ents} {r : AV} {h' : Ents} (a b : Nat) (hF : FnR P G f args h r h') : FnR P G f (args.map (AV.map (swp a b))) (enMap (swp a b) h) (r.map (swp a b)) (enMap (swp a b) h') := by
  intro B ρ w vs hb hm hg hl ha
  have hS0 : Stab B (fun n => ρ (swp a b n)) h w = Stab B ρ (enMap (swp a b) h) w := by
    have := Stab.swap (B := B) (ρ := fun n => ρ (swp a b n)) (e := h) (w := w) (a := a) (b := b)
    simpa only [swp_swp] using this.symm
  have hN : (fun n => Nm (enMap (swp a b) h) (swp a b n)) = Nm h := by rw [Nm.swap]; funext n; simp only [swp_swp]
  have key : ∀ m x, lk h m = some x → lk (enMap (swp a b) h) (swp a b m) = some (x.map (swp a b)) := fun m x hx => by rw [lk_enMap, swp_swp, hx]; rfl
  refine (hF B (fun n => ρ (swp a b n)) w vs hb ⟨fun m x hx => ?_, fun m m' x x' hx hx' hq => ?_⟩ ?_ (by simpa using hl) (fun i x hi => ?_)).mono ?_
  · have h1 := hm.en _ _ (key m x hx)
    refine ⟨by simp [Nm, hx], ?_⟩
    have h2 := h1.2.swap (a := a) (b := b)
    rw [Ent.map_swp2, hN] at h2
    rw [hS0]
    exact h2
  · have := hm.inj _ _ _ _ (key m x hx) (key m' x' hx') hq
    have := congrArg (swp a b) this
    simpa only [swp_swp] using this
  · intro g x hx
    rw [hS0]
    exact (hg g x hx).mono (Evo.refl w) NoNm (fun _ h => h.elim)
  · obtain ⟨v, h1, h2⟩ := ha i (x.map (swp a b)) (by simp [hi])
    refine ⟨v, h1, ?_⟩
    have h3 := h2.swap (a := a) (b := b)
    rw [AV.map_swp2, hN] at h3
    rw [hS0]
    exact h3
  · rintro e w' ⟨x, ρ', rfl, hr, hmem, hk⟩
    have hS : Stab B (fun n => ρ' (swp a b n)) (enMap (swp a b) h') w' = Stab B ρ' h' w' := Stab.swap
    refine ⟨x, fun n => ρ' (swp a b n), rfl, ?_, ⟨fun m y hy => ?_, fun m m' y y' hy hy' hq => ?_⟩, ⟨?_, fun n hn hn' => ?_, fun m y hy => ?_, hk.size, hk.os, hk.out, hk.tape, fun c hc hno => hk.others c hc (fun m x hx => hno (swp a b m) _ (key m x hx))⟩⟩
    · rw [hS, Nm.swap]; exact hr.swap
    · rw [hS, Nm.swap]
      rw [lk_enMap, Option.map_eq_some_iff] at hy
      obtain ⟨z, hz, rfl⟩ := hy
      exact ⟨(hmem.en _ z hz).1, (hmem.en _ z hz).2.swap⟩
    · rw [lk_enMap, Option.map_eq_some_iff] at hy hy'
      obtain ⟨z, hz, rfl⟩ := hy
      obtain ⟨z', hz', rfl⟩ := hy'
      have := congrArg (swp a b) (hmem.inj _ _ _ _ hz hz' hq)
      simpa only [swp_swp] using this
    · rw [hS, ← hS0]; exact hk.evo
    · rw [Nm.swap] at hn hn'
      have := hk.agree _ hn hn'
      simpa only [swp_swp] using this
    · rw [lk_enMap, Option.map_eq_some_iff] at hy
      obtain ⟨z, hz, rfl⟩ := hy
      rcases hk.fresh _ z hz with ⟨m0, x0, h0, h1⟩ | h1
      · exact .inl ⟨swp a b m0, _, key m0 x0 h0, h1⟩
      · exact .inr h1

/-- What a call makes, told by value. -/
theorem FnR.valT {P : Program} {G : Nat → Option AV} {f : FuncId} {args : List AV} {l l' : List AV} {h' : Ents} {F : Bool} (hF : FnR P G f args [] (.tup l) h') (hv : Ok (vw.vwL h' [] l) (l', F)) : FnR P G f args [] (.tup l') [] := by
  intro B ρ w vs hb hm hg hl ha
  refine (hF B ρ w vs hb hm hg hl ha).mono ?_
  rintro e w' ⟨u, ρ', rfl, hr, hmem, hk⟩
  have hS : ∀ b, Stab B ρ' h' w' b → Stab B ρ' [] w' b := fun b hb => ⟨hb.1, hb.2.1, fun m x hm => (by cases hm)⟩
  obtain ⟨k1, k2⟩ := vwL_each hv
  refine ⟨u, ρ', rfl, ?_, ⟨fun m x hm => by (cases hm), fun m m' x x' hm => by (cases hm)⟩,
    ⟨⟨fun b hb => ⟨hS b (hk.evo.stable b hb).1, (hk.evo.stable b hb).2⟩, hk.evo.sized⟩, fun n h1 _ => (by cases h1), fun m x hm => by (cases hm), hk.size, hk.os, hk.out, hk.tape, hk.others⟩⟩
  cases hr with
  | one h => cases h
  | tup hl hh =>
    refine .tup (by rw [hl, k1]) (fun i x' hi => ?_)
    obtain ⟨x, f1, hx1, hx2⟩ := k2 i x' hi
    obtain ⟨cs, hc1, hc2⟩ := hh i x hx1
    obtain ⟨j1, j2⟩ := vw_sound (S' := Stab B ρ' [] w') (F := true) hS (fun nm x hx => (hmem.en nm x hx).2) (fun _ nm x hx _ => by
      refine ⟨hb _ ?_, hmem.block_lt hx, fun m x hm => (by cases hm)⟩
      rcases hk.fresh nm x hx with ⟨m0, x0, h0, _⟩ | h
      · cases h0
      · exact h) _ cs x' f1 hc1 hx2 (fun _ => rfl)
    refine ⟨cs, j1, ?_⟩
    rw [hc2]
    simp only [shape, j2]
theorem FnR.val {P : Program} {G : Nat → Option AV} {f : FuncId} {args : List AV} {r r' : AV} {h' : Ents} {F : Bool} (hF : FnR P G f args [] r h') (ht : r.isTup = false) (hv : Ok (vw h' [] r) (r', F)) : FnR P G f args [] r' [] := by
  intro B ρ w vs hb hm hg hl ha
  refine (hF B ρ w vs hb hm hg hl ha).mono ?_
  rintro e w' ⟨u, ρ', rfl, hr, hmem, hk⟩
  have hS : ∀ b, Stab B ρ' h' w' b → Stab B ρ' [] w' b := fun b hb => ⟨hb.1, hb.2.1, fun m x hm => (by cases hm)⟩
  obtain ⟨cs, hu, hr⟩ := hr.inv (fun l hl => by rw [hl] at ht; cases ht)
  obtain ⟨k1, k2⟩ := vw_sound (S' := Stab B ρ' [] w') (F := true) hS (fun nm x hx => (hmem.en nm x hx).2) (fun _ nm x hx _ => by
      refine ⟨hb _ ?_, hmem.block_lt hx, fun m x hm => (by cases hm)⟩
      rcases hk.fresh nm x hx with ⟨m0, x0, h0, _⟩ | h
      · cases h0
      · exact h) _ cs r' F hr hv (fun _ => rfl)
  refine ⟨u, ρ', rfl, ?_, ⟨fun m x hm => by (cases hm), fun m m' x x' hm => by (cases hm)⟩,
    ⟨⟨fun b hb => ⟨hS b (hk.evo.stable b hb).1, (hk.evo.stable b hb).2⟩, hk.evo.sized⟩, fun n h1 _ => (by cases h1), fun m x hm => by (cases hm), hk.size, hk.os, hk.out, hk.tape, hk.others⟩⟩
  have : u = shape r' cs := by rw [hu]; simp only [shape, k2]
  rw [this]
  exact .one k1

/-- Shapes of data. -/
inductive Sh where
  | int (k : IntKind) | bool | str | arrI (k : IntKind) (n : Nat) | slI (k : IntKind) | slS | sl (sz : Nat) (ag : Bool) (e : Sh) | st (l : List Sh)
  deriving Inhabited

def InK (k : IntKind) (n : Int) : Prop := k.min ≤ n ∧ n ≤ k.max

def oneA (ag : Bool) (cs : List AV) : AV := bif ag then .agg cs else cs.headD (.tup [])

mutual
/-- The parts that a datum of a shape has. -/
def Opn : Sh → List AV → Prop
  | .int k, l => ∃ n, l = [.int k n] ∧ InK k n
  | .bool, l => ∃ b, l = [.bool b]
  | .str, l => ∃ s : ByteArray, l = [.str s] ∧ s.size ≤ maxLen
  | .arrI k n, l => ∃ xs, l = [.ints k n xs] ∧ xs.length = n ∧ ∀ x ∈ xs, InK k x
  | .slI k, l => ∃ xs, l = [.lstI k xs] ∧ xs.length ≤ maxLen ∧ ∀ x ∈ xs, InK k x
  | .slS, l => ∃ ss, l = [.lstS ss] ∧ ss.length ≤ maxLen ∧ ∀ s ∈ ss, s.size ≤ maxLen
  | .sl sz ag e, l => ∃ as, l = [.lst sz as] ∧ as.length ≤ maxLen ∧ ∀ a ∈ as, ∃ cs, Opn e cs ∧ a = oneA ag cs
  | .st es, l => OpnL es l
def OpnL : List Sh → List AV → Prop
  | [], l => l = []
  | e :: es, l => ∃ a b, l = a ++ b ∧ Opn e a ∧ OpnL es b
end

def isAg (P : Program) (t : TypeId) : Bool :=
  match P.underlying t with
  | some (.struct _) => true
  | some (.array _ _) => true
  | _ => false

def fieldsOK (P : Program) : Nat → List Field → Nat → Bool
  | o, [], tot => o == tot
  | o, f :: fs, tot => f.offset == o && fieldsOK P (o + P.cellsOf f.type) fs tot

def slSh (sz : Nat) (ag : Bool) : Sh → Option Sh
  | .int k => bif sz == 1 then some (.slI k) else none
  | .str => bif sz == 1 then some .slS else none
  | s => bif Nat.blt 0 sz then some (.sl sz ag s) else none

def arSh (n sz : Nat) : Sh → Option Sh
  | .int k => bif sz == 1 then some (.arrI k n) else none
  | s => some (.st (List.replicate n s))

def shOf (P : Program) : Nat → TypeId → Option Sh
  | 0, _ => none
  | n + 1, t =>
    match P.underlying t with
    | some (.int k) => some (.int k)
    | some .bool => some .bool
    | some .string => some .str
    | some (.slice e) => (shOf P n e).bind (slSh (P.cellsOf e) (isAg P e))
    | some (.array m e) => bif P.cellsOf t == m * P.cellsOf e then (shOf P n e).bind (arSh m (P.cellsOf e)) else none
    | some (.struct fs) => bif fieldsOK P 0 fs.toList (P.cellsOf t) then (fs.toList.mapM fun f => shOf P n f.type).map .st else none
    | _ => none

section
variable {H : Type} {enc : TypeId × Value → H} {P : Program} {W : World} {ρ : Nat → Nat} {S : Nat → Prop} {N : Nat → Prop}

theorem cells_get {a : Addr} {o n : Nat} {cs : List Value} (h : W.cells? 0 (a.add o) n = some cs) :
    cs.length = n ∧ ∀ j c, cs[j]? = some c → W.cell? ⟨a.block, a.off + o + j, none⟩ = some c ∧ a.block < W.heap.size ∧ (o = 0 → a.spot = none) := by
  unfold World.cells? at h
  rw [if_pos (Nat.zero_le _)] at h
  have hl := mapM_some_length h
  rw [List.length_range] at hl
  refine ⟨hl, fun j c hc => ?_⟩
  have hj : j < n := by have := (List.getElem?_eq_some_iff.1 hc).1; omega
  have h1 := mapM_some_get h j j (by simp [hj])
  rw [hc] at h1
  have hspot : ((a.add o).add j).spot = none := by
    cases hsp : ((a.add o).add j).spot with
    | none => rfl
    | some s =>
      simp only [World.cell?] at h1
      split at h1
      · simp [hsp] at h1
      · cases h1
  have e : (a.add o).add j = ⟨a.block, a.off + o + j, none⟩ := by
    unfold Addr.add at hspot ⊢
    by_cases ho : o = 0 <;> by_cases hj0 : j = 0 <;> simp [ho, hj0] at hspot ⊢
    · cases a; simp_all
  rw [e] at h1
  refine ⟨h1, ?_, ?_⟩
  · unfold World.cell? at h1
    split at h1
    · next hh => exact (Array.getElem?_eq_some_iff.1 hh).1
    · cases h1
  · intro ho
    have h2 := mapM_some_get h 0 0 (List.getElem?_range (by omega))
    subst ho
    have e0 : (a.add 0).add 0 = a := by simp [Addr.add]
    rw [List.getElem?_eq_getElem (by omega), e0] at h2
    cases hsp : a.spot with
    | none => rfl
    | some s =>
      simp only [World.cell?] at h2
      split at h2
      · simp [hsp] at h2
      · cases h2

theorem RC.un1 {a : AV} {cs : List Value} (h : RC ρ S W N (.agg [a]) cs) : RC ρ S W N a cs := by
  cases h with
  | cons h1 h2 => cases h2; simpa using h1
theorem RC.mk1 {a : AV} {cs : List Value} (h : RC ρ S W N a cs) : RC ρ S W N (.agg [a]) cs := by
  have := RC.cons h (RC.nil (ρ := ρ) (S := S) (w := W) (N := N))
  simpa using this
theorem RC.app : ∀ {l l' : List AV} {cs cs' : List Value}, RC ρ S W N (.agg l) cs → RC ρ S W N (.agg l') cs' → RC ρ S W N (.agg (l ++ l')) (cs ++ cs')
  | [], _, _, _, h, h' => by cases h; simpa using h'
  | a :: l, _, _, _, h, h' => by
    cases h with
    | cons h1 h2 => rw [List.cons_append, List.append_assoc]; exact .cons h1 (RC.app h2 h')

theorem inK_wf {k : IntKind} {n : Int} (h : (Lit.int k n).wf = true) : InK k n := by
  simpa [Lit.wf, InK] using h

/-- What a shape that is one part is: no aggregate. -/
theorem Opn.single {P : Program} {n : Nat} {t : TypeId} {sh : Sh} {l : List AV} (h : shOf P n t = some sh) (ho : Opn sh l) (ha : isAg P t = false) : ∃ a, l = [a] ∧ a.isAgg = false := by
  cases n with
  | zero => cases h
  | succ n =>
    unfold shOf at h
    unfold isAg at ha
    split at h
    · cases h; obtain ⟨x, rfl, _⟩ := ho; exact ⟨_, rfl, rfl⟩
    · cases h; obtain ⟨x, rfl⟩ := ho; exact ⟨_, rfl, rfl⟩
    · cases h; obtain ⟨x, rfl, _⟩ := ho; exact ⟨_, rfl, rfl⟩
    · rw [Option.bind_eq_some_iff] at h
      obtain ⟨s, _, hs⟩ := h
      unfold slSh at hs
      split at hs
      · cases hb : P.cellsOf _ == 1 <;> rw [hb] at hs <;> cases hs
        obtain ⟨x, rfl, _⟩ := ho; exact ⟨_, rfl, rfl⟩
      · cases hb : P.cellsOf _ == 1 <;> rw [hb] at hs <;> cases hs
        obtain ⟨x, rfl, _⟩ := ho; exact ⟨_, rfl, rfl⟩
      · cases hb : Nat.blt 0 (P.cellsOf _) <;> rw [hb] at hs <;> cases hs
        obtain ⟨x, rfl, _⟩ := ho; exact ⟨_, rfl, rfl⟩
    · next hu => rw [hu] at ha; cases ha
    · next hu => rw [hu] at ha; cases ha
    · cases h

theorem list_choice {α : Type} {Q : Nat → α → Prop} : ∀ n, (∀ i, i < n → ∃ v, Q i v) → ∃ xs : List α, xs.length = n ∧ ∀ i x, xs[i]? = some x → Q i x
  | 0, _ => ⟨[], rfl, fun i x h => by simp at h⟩
  | n + 1, h => by
    obtain ⟨xs, h1, h2⟩ := list_choice n (fun i hi => h i (by omega))
    obtain ⟨v, hv⟩ := h n (by omega)
    refine ⟨xs ++ [v], by simp [h1], fun i x hx => ?_⟩
    by_cases hi : i < n
    · exact h2 i x (by rwa [List.getElem?_append_left (by omega)] at hx)
    · rw [List.getElem?_append_right (by omega)] at hx
      have : i = n := by
        have := (List.getElem?_eq_some_iff.1 hx).1
        simp at this; omega
      subst this
      simp [h1] at hx
      rw [← hx]; exact hv

theorem open_arr {n sz : Nat} {s : Sh} {cs : List Value} (hR : ∀ i, i < n → ∃ l, Opn s l ∧ RC ρ S W N (.agg l) ((cs.drop (i * sz)).take sz)) :
    ∀ k o, o + k = n → cs.length = n * sz → ∃ l, OpnL (List.replicate k s) l ∧ RC ρ S W N (.agg l) (cs.drop (o * sz))
  | 0, o, h, hl => ⟨[], by rw [List.replicate_zero, OpnL], by
    have e : o = n := by omega
    subst e
    rw [List.drop_of_length_le (by omega)]; exact .nil⟩
  | k + 1, o, h, hl => by
    obtain ⟨l1, h1, h2⟩ := hR o (by omega)
    obtain ⟨l2, h3, h4⟩ := open_arr hR k (o + 1) (by omega) hl
    refine ⟨l1 ++ l2, by rw [List.replicate_succ, OpnL]; exact ⟨l1, l2, rfl, h1, h3⟩, ?_⟩
    have : cs.drop (o * sz) = (cs.drop (o * sz)).take sz ++ cs.drop ((o + 1) * sz) := by
      rw [Nat.add_mul, Nat.one_mul, ← List.drop_drop, List.take_append_drop]
    rw [this]
    exact RC.app h2 h4

theorem open_str {cs : List Value} {tot : Nat} (hl : cs.length = tot) {n : Nat} : ∀ (fs : List Field) (o : Nat) (shs : List Sh), fieldsOK P o fs tot = true → fs.mapM (fun f => shOf P n f.type) = some shs →
    (∀ f ∈ fs, ∀ s, shOf P n f.type = some s → ∃ l, Opn s l ∧ RC ρ S W N (.agg l) ((cs.drop f.offset).take (P.cellsOf f.type))) →
    ∃ l, OpnL shs l ∧ RC ρ S W N (.agg l) (cs.drop o)
  | [], o, shs, hf, hm, _ => by
    simp at hm
    subst hm
    simp [fieldsOK] at hf
    exact ⟨[], by rw [OpnL], by rw [List.drop_of_length_le (by omega)]; exact .nil⟩
  | f :: fs, o, shs, hf, hm, hR => by
    simp only [fieldsOK, Bool.and_eq_true, beq_iff_eq] at hf
    rw [List.mapM_cons] at hm
    simp only [Option.bind_eq_bind, Option.bind_eq_some_iff] at hm
    obtain ⟨s, hs, ss, hss, he⟩ := hm
    cases he
    obtain ⟨l1, h1, h2⟩ := hR f (by simp) s hs
    obtain ⟨l2, h3, h4⟩ := open_str hl fs (o + P.cellsOf f.type) ss hf.2 hss (fun g hg => hR g (by simp [hg]))
    refine ⟨l1 ++ l2, by rw [OpnL]; exact ⟨l1, l2, rfl, h1, h3⟩, ?_⟩
    have : cs.drop o = (cs.drop o).take (P.cellsOf f.type) ++ cs.drop (o + P.cellsOf f.type) := by
      rw [← List.drop_drop, List.take_append_drop]
    rw [this]
    rw [hf.1] at h2
    exact RC.app h2 h4

theorem open_sh (hS : ∀ b, b < W.heap.size → S b) {sp : Nat → Bool} {held : Bool} : ∀ (n : Nat) (t : TypeId) (sh : Sh), shOf P n t = some sh → ∀ (m : Nat) (cs : List Value) (x : DataW H × List MemPlace), DataW.trod enc P W 0 sp held m t cs = some x →
    ∃ l, Opn sh l ∧ RC ρ S W NoNm (.agg l) cs
  | 0, _, _, h, _, _, _, _ => by cases h
  | n + 1, t, sh, h, m, cs, x, hd => by
    have h0 := h
    unfold shOf at h
    split at h
    · next k hu =>
      cases h
      obtain ⟨v, rfl, rfl, hw⟩ := DataW.trod_int hu hd
      exact ⟨[.int k v], ⟨v, rfl, inK_wf hw⟩, .mk1 .int⟩
    · next hu =>
      cases h
      obtain ⟨v, rfl, rfl⟩ := DataW.trod_bool hu hd
      exact ⟨[.bool v], ⟨v, rfl⟩, .mk1 .bool⟩
    · next hu =>
      cases h
      obtain ⟨v, rfl, rfl, hw⟩ := DataW.trod_string hu hd
      exact ⟨[.str v], ⟨v, rfl, hw⟩, .mk1 .str⟩
    · next e hu =>
      rw [Option.bind_eq_some_iff] at h
      obtain ⟨s, hs, hsh⟩ := h
      rcases DataW.trod_slice hu hd with ⟨rfl, rfl⟩ | ⟨a, len, cap, elems, rest, q, rfl, rfl, rfl, _, hlc, hcm, hel, hget, _, _⟩
      · -- nil
        unfold slSh at hsh
        split at hsh
        · cases hb : P.cellsOf e == 1 <;> rw [hb] at hsh <;> cases hsh
          exact ⟨[.lstI _ []], ⟨[], rfl, by simp, by simp⟩, .mk1 (.lstI (xs := []) (a := none) (cap := 0) (by simp) (by simp) (fun i x h => by simp at h))⟩
        · cases hb : P.cellsOf e == 1 <;> rw [hb] at hsh <;> cases hsh
          exact ⟨[.lstS []], ⟨[], rfl, by simp, by simp⟩, .mk1 (.lstS (ss := []) (a := none) (cap := 0) (by simp) (by simp) (fun i x h => by simp at h))⟩
        · cases hb : Nat.blt 0 (P.cellsOf e) <;> rw [hb] at hsh <;> cases hsh
          exact ⟨[.lst _ []], ⟨[], rfl, by simp, by simp⟩, .mk1 (.lst (l := []) (a := none) (cap := 0) (fun _ => []) (by simp) (by simp) (fun i x h => by simp at h) (fun i x h => by simp at h))⟩
      · have gets : ∀ i, i < len → ∃ y cs', elems[i]? = some y ∧ cs'.length = P.cellsOf e ∧ DataW.trod enc P W 0 sp held q e cs' = some y ∧
            ∀ j c, cs'[j]? = some c → W.cell? ⟨a.block, a.off + i * P.cellsOf e + j, none⟩ = some c ∧ a.block < W.heap.size ∧ a.spot = none := by
          intro i hi
          obtain ⟨y, hy⟩ : ∃ y, elems[i]? = some y := ⟨elems[i]'(by omega), by simp⟩
          have h0 := hget i hi
          rw [hy, Option.bind_eq_some_iff] at h0
          obtain ⟨cs', hc, ht⟩ := h0
          obtain ⟨h1, h2⟩ := cells_get hc
          refine ⟨y, cs', hy, h1, ht, fun j c hj => ?_⟩
          obtain ⟨h3, h4, _⟩ := h2 j c hj
          refine ⟨h3, h4, ?_⟩
          have hpos : 0 < P.cellsOf e := by have := (List.getElem?_eq_some_iff.1 hj).1; omega
          have hz := hget 0 (by omega)
          rw [List.getElem?_eq_getElem (by omega), Option.bind_eq_some_iff] at hz
          obtain ⟨cs0, hc0, _⟩ := hz
          obtain ⟨k1, k2⟩ := cells_get hc0
          exact (k2 0 cs0[0] (by simp)).2.2 (by simp)
        have ih := fun cs y => open_sh hS (sp := sp) (held := held) n e s hs q cs y
        unfold slSh at hsh
        split at hsh
        · next k =>
          cases hb : P.cellsOf e == 1 <;> rw [hb] at hsh <;> cases hsh
          have hz : P.cellsOf e = 1 := by simpa using hb
          obtain ⟨xs, hx1, hx2⟩ := list_choice (Q := fun i v => InK k v ∧ W.cell? ⟨a.block, a.off + i, none⟩ = some (.int k v) ∧ a.block < W.heap.size ∧ a.spot = none) len (fun i hi => by
            obtain ⟨y, cs', _, _, h2, h3⟩ := gets i hi
            obtain ⟨l, ⟨v, rfl, hv⟩, hrc⟩ := ih cs' y h2
            have h4 := RC.un1 hrc
            cases h4
            have h5 := h3 0 _ rfl
            rw [hz, Nat.mul_one, Nat.add_zero] at h5
            exact ⟨v, hv, h5⟩)
          refine ⟨[.lstI k xs], ⟨_, rfl, by omega, ?_⟩, .mk1 ?_⟩
          · intro x hx
            obtain ⟨i, hi⟩ := List.getElem?_of_mem hx
            exact (hx2 i x hi).1
          · have := RC.lstI (ρ := ρ) (S := S) (w := W) (N := NoNm) (k := k) (xs := xs) (a := some a) (cap := cap) (by omega) hcm (fun i x hx => by
              obtain ⟨_, h5, h6, h7⟩ := hx2 i x hx
              exact ⟨a.block, a.off, by cases a; simp at h7; subst h7; rfl, hS _ h6, h5⟩)
            rw [hx1] at this
            exact this
        · cases hb : P.cellsOf e == 1 <;> rw [hb] at hsh <;> cases hsh
          have hz : P.cellsOf e = 1 := by simpa using hb
          obtain ⟨xs, hx1, hx2⟩ := list_choice (Q := fun i (v : ByteArray) => v.size ≤ maxLen ∧ W.cell? ⟨a.block, a.off + i, none⟩ = some (.string v) ∧ a.block < W.heap.size ∧ a.spot = none) len (fun i hi => by
            obtain ⟨y, cs', _, _, h2, h3⟩ := gets i hi
            obtain ⟨l, ⟨v, rfl, hv⟩, hrc⟩ := ih cs' y h2
            have h4 := RC.un1 hrc
            cases h4
            have h5 := h3 0 _ rfl
            rw [hz, Nat.mul_one, Nat.add_zero] at h5
            exact ⟨v, hv, h5⟩)
          refine ⟨[.lstS xs], ⟨_, rfl, by omega, ?_⟩, .mk1 ?_⟩
          · intro x hx
            obtain ⟨i, hi⟩ := List.getElem?_of_mem hx
            exact (hx2 i x hi).1
          · have := RC.lstS (ρ := ρ) (S := S) (w := W) (N := NoNm) (ss := xs) (a := some a) (cap := cap) (by omega) hcm (fun i x hx => by
              obtain ⟨_, h5, h6, h7⟩ := hx2 i x hx
              exact ⟨a.block, a.off, by cases a; simp at h7; subst h7; rfl, hS _ h6, h5⟩)
            rw [hx1] at this
            exact this
        · cases hb : Nat.blt 0 (P.cellsOf e) <;> rw [hb] at hsh <;> cases hsh
          have hz : 0 < P.cellsOf e := by simpa [Nat.blt_eq] using hb
          obtain ⟨xs, hx1, hx2⟩ := list_choice (Q := fun i (v : AV × List Value) => (∃ cs, Opn s cs ∧ v.1 = oneA (isAg P e) cs) ∧ RC ρ S W NoNm v.1 v.2 ∧ v.2.length = P.cellsOf e ∧ (∀ j u, v.2[j]? = some u → W.cell? ⟨a.block, a.off + i * P.cellsOf e + j, none⟩ = some u) ∧ a.block < W.heap.size ∧ a.spot = none) len (fun i hi => by
            obtain ⟨y, cs', _, h1, h2, h3⟩ := gets i hi
            obtain ⟨l, hl, hrc⟩ := open_sh hS (sp := sp) (held := held) n e s hs q cs' y h2
            have h5 := h3 0 cs'[0] (by simp)
            refine ⟨(oneA (isAg P e) l, cs'), ⟨l, hl, rfl⟩, ?_, h1, fun j u hj => (h3 j u hj).1, h5.2.1, h5.2.2⟩
            cases ha : isAg P e with
            | true => exact hrc
            | false =>
              obtain ⟨b, rfl, _⟩ := Opn.single hs hl ha
              exact RC.un1 hrc)
          refine ⟨[.lst _ (xs.map (·.1))], ⟨_, rfl, by rw [List.length_map]; omega, ?_⟩, .mk1 ?_⟩
          · intro x hx
            obtain ⟨z, hz1, rfl⟩ := List.mem_map.1 hx
            obtain ⟨i, hi⟩ := List.getElem?_of_mem hz1
            exact (hx2 i z hi).1
          · have := RC.lst (ρ := ρ) (S := S) (w := W) (N := NoNm) (sz := P.cellsOf e) (l := xs.map (·.1)) (a := some a) (cap := cap) (fun i => ((xs[i]?).map (·.2)).getD []) (by rw [List.length_map]; omega) hcm (fun i x hx => by
              rw [List.getElem?_map, Option.map_eq_some_iff] at hx
              obtain ⟨z, h1, rfl⟩ := hx
              rw [h1]
              exact (hx2 i z h1).2.1) (fun i x hx => by
              rw [List.getElem?_map, Option.map_eq_some_iff] at hx
              obtain ⟨z, h1, rfl⟩ := hx
              rw [h1]
              obtain ⟨_, _, h4, h5, h6, h7⟩ := hx2 i z h1
              exact ⟨h4, a.block, a.off, by cases a; simp at h7; subst h7; rfl, hS _ h6, h5⟩)
            rw [List.length_map, hx1] at this
            exact this
    · next m' e hu =>
      cases hb : P.cellsOf t == m' * P.cellsOf e <;> rw [hb] at h
      · cases h
      rw [cond_true, Option.bind_eq_some_iff] at h
      obtain ⟨s, hs, hsh⟩ := h
      obtain ⟨xs, q, rfl, rfl, hl, hn, hget⟩ := DataW.trod_array hu hd
      have hlen : cs.length = m' * P.cellsOf e := by rw [hl]; simpa using hb
      have hR : ∀ i, i < m' → ∃ l, Opn s l ∧ RC ρ S W NoNm (.agg l) ((cs.drop (i * P.cellsOf e)).take (P.cellsOf e)) := by
        intro i hi
        have h1 := hget i hi
        rw [List.getElem?_eq_getElem (by omega)] at h1
        exact open_sh hS n e s hs q _ _ h1
      unfold arSh at hsh
      split at hsh
      · next k =>
        cases hb1 : P.cellsOf e == 1 <;> rw [hb1] at hsh <;> cases hsh
        have hz : P.cellsOf e = 1 := by simpa using hb1
        rw [hz, Nat.mul_one] at hlen
        obtain ⟨ys, hy1, hy2⟩ := list_choice (Q := fun i v => InK k v ∧ cs[i]? = some (.int k v)) m' (fun i hi => by
          obtain ⟨l, ⟨v, rfl, hv⟩, hrc⟩ := hR i hi
          have h4 := RC.un1 hrc
          rw [hz, Nat.mul_one] at h4
          have h5 : (cs.drop i).take 1 = [.int k v] := by
            generalize hg : (cs.drop i).take 1 = g at h4
            cases h4; rfl
          refine ⟨v, hv, ?_⟩
          have := congrArg (fun l => l[0]?) h5
          simpa using this)
        have hcs : cs = ys.map (Value.int k) := by
          apply List.ext_getElem?
          intro i
          rw [List.getElem?_map]
          by_cases hi : i < m'
          · rw [List.getElem?_eq_getElem (l := ys) (by omega)]
            exact (hy2 i ys[i] (by simp)).2
          · rw [List.getElem?_eq_none (by omega), List.getElem?_eq_none (by omega)]; rfl
        refine ⟨[.ints k m' ys], ⟨ys, rfl, hy1, fun x hx => ?_⟩, .mk1 ?_⟩
        · obtain ⟨i, hi⟩ := List.getElem?_of_mem hx
          exact (hy2 i x hi).1
        · rw [hcs]; exact .ints hy1
      · cases hsh
        obtain ⟨l, h1, h2⟩ := open_arr hR m' 0 (by omega) hlen
        exact ⟨l, h1, by simpa using h2⟩
    · next fs hu =>
      cases hb : fieldsOK P 0 fs.toList (P.cellsOf t) <;> rw [hb] at h
      · cases h
      rw [cond_true, Option.map_eq_some_iff] at h
      obtain ⟨ss, hss, rfl⟩ := h
      obtain ⟨xs, q, rfl, rfl, hl, hn, hget⟩ := DataW.trod_struct hu hd
      obtain ⟨l, h1, h2⟩ := open_str (ρ := ρ) (S := S) (W := W) (N := NoNm) hl fs.toList 0 ss hb hss (fun f hf s hs => by
        obtain ⟨i, hi⟩ := List.getElem?_of_mem hf
        have hi' : fs[i]? = some f := by simpa using hi
        have h1 := hget i f hi'
        have hlt : i < fs.size := (Array.getElem?_eq_some_iff.1 hi').1
        rw [List.getElem?_eq_getElem (by omega)] at h1
        exact open_sh hS n f.type s hs q _ _ h1)
      exact ⟨l, h1, by simpa using h2⟩
    · cases h
end
end Sx
