/- Types, cells of values, and single operations that read. -/
import Derived.Test.YtakgcmponelbeaaDoorSxB
set_option linter.unusedVariables false
set_option linter.unusedSimpArgs false
namespace Sx
open Go

/-- What a type is. -/
inductive Kd where
  | int (k : IntKind) | bool | str
  | slice (e : Nat) | arr (n e : Nat) | strct (fs : List (Nat × Nat)) | ptr (e : Nat) | fn | ifc | map (k v : Nat) | oth
  deriving Inhabited

def Kd.agg : Kd → Bool
  | .arr _ _ => true
  | .strct _ => true
  | _ => false

def kdOf : TypeDesc → Kd
  | .int k => .int k
  | .bool => .bool
  | .string => .str
  | .slice e => .slice e
  | .array n e => .arr n e
  | .struct fs => .strct (fs.toList.map fun f => (f.offset, f.type))
  | .pointer e => .ptr e
  | .func _ _ _ => .fn
  | .interface _ => .ifc
  | .map k v => .map k v
  | _ => .oth

/-- The cells of a value that names no memory. -/
def conc : AV → List Value
  | .int k n => [.int k n]
  | .bool b => [.bool b]
  | .str s => [.string s]
  | .ints k _ xs => xs.map (.int k)
  | .nils => [.slice none 0 0]
  | .nilp => [.pointer none]
  | .nilf => [.nilFunc]
  | .nili => [.nilIface]
  | .nilm => [.map none]
  | .agg cs => concL cs
  | _ => []
where
  concL : List AV → List Value
  | [] => []
  | c :: cs => conc c ++ concL cs

/-- Names no memory, and is well formed. -/
def plain : AV → Bool
  | .int _ _ => true
  | .bool _ => true
  | .str _ => true
  | .ints _ n xs => xs.length == n
  | .nils => true
  | .nilp => true
  | .nilf => true
  | .nili => true
  | .nilm => true
  | .agg cs => plainL cs
  | _ => false
where
  plainL : List AV → Bool
  | [] => true
  | c :: cs => plain c && plainL cs

mutual
theorem RC.conc (ρ : Nat → Nat) (S : Nat → Prop) (w : World) (N : Nat → Prop) : ∀ a : AV, plain a = true → RC ρ S w N a (conc a)
  | .int _ _, _ => .int
  | .bool _, _ => .bool
  | .str _, _ => .str
  | .ints _ _ _, h => .ints (by simpa [plain] using h)
  | .nils, _ => .nils
  | .nilp, _ => .nilp
  | .nilf, _ => .nilf
  | .nili, _ => .nili
  | .nilm, _ => .nilm
  | .agg cs, h => by rw [Sx.conc]; exact RC.concL ρ S w N cs (by rw [plain] at h; exact h)
  | .tup _, h | .ptr _ _ _ _, h | .pel _, h | .sl _ _ _ _, h | .lstI _ _, h | .lstS _, h | .lst _ _, h | .fn _ _, h | .ifc _ _, h | .mp _, h => by simp [plain] at h
theorem RC.concL (ρ : Nat → Nat) (S : Nat → Prop) (w : World) (N : Nat → Prop) : ∀ cs : List AV, plain.plainL cs = true → RC ρ S w N (.agg cs) (conc.concL cs)
  | [], _ => by rw [conc.concL]; exact .nil
  | c :: cs, h => by
    rw [plain.plainL, Bool.and_eq_true] at h
    rw [conc.concL]
    exact .cons (RC.conc ρ S w N c h.1) (RC.concL ρ S w N cs h.2)
end

/-- A row of the table of types. -/
structure TI where
  size : Nat
  bytes : Nat
  kd : Kd
  z : AV
  deriving Inhabited

structure TyOK (P : Program) (T : Nat) (ti : TI) : Prop where
  inf : (P.info? T).map (fun i => (i.size, i.bytes, i.zero)) = some (ti.size, ti.bytes, some (shape ti.z (conc ti.z)))
  pl : plain ti.z = true
  und : (P.underlying T).map kdOf = some ti.kd
  ag : ti.z.isAgg = ti.kd.agg
  zs : (conc ti.z).length = ti.size

def TT (P : Program) (tt : Nat → Option TI) : Prop := ∀ T ti, tt T = some ti → TyOK P T ti

section
variable {P : Program} {T : Nat} {ti : TI}
theorem TyOK.info (h : TyOK P T ti) : ∃ i, P.info? T = some i ∧ i.size = ti.size ∧ i.bytes = ti.bytes ∧ i.zero = some (shape ti.z (conc ti.z)) := by
  have := h.inf
  cases hi : P.info? T with
  | none => rw [hi] at this; cases this
  | some i => rw [hi] at this; simp at this; exact ⟨i, rfl, this.1, this.2.1, this.2.2⟩
theorem TyOK.under (h : TyOK P T ti) : ∃ d, P.underlying T = some d ∧ kdOf d = ti.kd := by
  have := h.und
  cases hi : P.underlying T with
  | none => rw [hi] at this; cases this
  | some d => rw [hi] at this; simp at this; exact ⟨d, rfl, this⟩
theorem TyOK.uslice (h : TyOK P T ti) {e : Nat} (hk : ti.kd = .slice e) : P.underlying T = some (.slice e) := by
  obtain ⟨d, hd, h2⟩ := h.under
  rw [hk] at h2
  cases d <;> simp [kdOf] at h2
  rw [hd, h2]
theorem TyOK.uarr (h : TyOK P T ti) {n e : Nat} (hk : ti.kd = .arr n e) : P.underlying T = some (.array n e) := by
  obtain ⟨d, hd, h2⟩ := h.under
  rw [hk] at h2
  cases d <;> simp [kdOf] at h2
  rw [hd, h2.1, h2.2]
theorem TyOK.ustruct (h : TyOK P T ti) {fs : List (Nat × Nat)} (hk : ti.kd = .strct fs) : ∃ gs : Array Field, P.underlying T = some (.struct gs) ∧ gs.toList.map (fun f => (f.offset, f.type)) = fs := by
  obtain ⟨d, hd, h2⟩ := h.under
  rw [hk] at h2
  cases d <;> simp [kdOf] at h2
  exact ⟨_, hd, h2⟩
theorem TyOK.uint (h : TyOK P T ti) {k : IntKind} (hk : ti.kd = .int k) : P.underlying T = some (.int k) := by
  obtain ⟨d, hd, h2⟩ := h.under
  rw [hk] at h2
  cases d <;> simp [kdOf] at h2
  rw [hd, h2]
theorem TyOK.ustr (h : TyOK P T ti) (hk : ti.kd = .str) : P.underlying T = some .string := by
  obtain ⟨d, hd, h2⟩ := h.under
  rw [hk] at h2
  cases d <;> simp [kdOf] at h2
  rw [hd]
theorem TyOK.ubool (h : TyOK P T ti) (hk : ti.kd = .bool) : P.underlying T = some .bool := by
  obtain ⟨d, hd, h2⟩ := h.under
  rw [hk] at h2
  cases d <;> simp [kdOf] at h2
  rw [hd]
theorem TyOK.run_size (h : TyOK P T ti) (w : World) : (Go.sizeOf T).run P w = .ok ti.size w := by
  obtain ⟨i, hi, h1, _⟩ := h.info
  simp [Go.sizeOf, typeInfo, hi, h1]
theorem TyOK.run_zero (h : TyOK P T ti) (w : World) : (zeroValue T).run P w = .ok (shape ti.z (conc ti.z)) w := by
  obtain ⟨i, hi, _, _, h1⟩ := h.info
  simp [zeroValue, typeInfo, hi, h1]
theorem TyOK.run_agg (h : TyOK P T ti) (w : World) : (isAgg T).run P w = .ok ti.kd.agg w := by
  obtain ⟨d, hd, h2⟩ := h.under
  simp only [isAgg, Sem.run_bind, run_underlying hd, Result.andThen_ok]
  rw [← h2]
  cases d <;> simp [kdOf, Kd.agg]
end

theorem TT.of_list {P : Program} {tbl : List (Nat × TI)} (h : ∀ p ∈ tbl, TyOK P p.1 p.2) : TT P (fun T => lk tbl T) := by
  intro T ti hT
  induction tbl with
  | nil => cases hT
  | cons p tbl ih =>
    obtain ⟨k, x⟩ := p
    simp only [lk] at hT
    split at hT
    · next hq => subst hq; cases hT; exact h _ (List.mem_cons_self ..)
    · exact ih (fun p hp => h p (List.mem_cons_of_mem _ hp)) hT

/-! ### Parts of values -/

def comps : AV → List AV
  | .agg cs => cs
  | a => [a]
def recomp (old : AV) (cs : List AV) : AV :=
  match old, cs with
  | .agg _, cs => .agg cs
  | _, [x] => x
  | _, cs => .agg cs

section
variable {ρ : Nat → Nat} {S : Nat → Prop} {w : World} {N : Nat → Prop}

theorem RC.comps {a : AV} {vs : List Value} (h : RC ρ S w N a vs) : RC ρ S w N (.agg (comps a)) vs := by
  cases a with
  | agg cs => exact h
  | _ => simpa [Sx.comps] using RC.cons h RC.nil
theorem RC.one {a : AV} {vs : List Value} (h : RC ρ S w N (.agg [a]) vs) : RC ρ S w N a vs := by
  cases h with
  | cons h1 h2 => cases h2; simpa using h1
theorem RC.append {cs ds : List AV} {a b : List Value} (h1 : RC ρ S w N (.agg cs) a) (h2 : RC ρ S w N (.agg ds) b) : RC ρ S w N (.agg (cs ++ ds)) (a ++ b) := by
  induction cs generalizing a with
  | nil => cases h1; simpa using h2
  | cons c cs ih =>
    cases h1 with
    | cons h3 h4 => rw [List.append_assoc]; exact .cons h3 (ih h4)

/-- How many cells a part has. -/
def csize : AV → Option Nat
  | .agg _ => none
  | .tup _ => none
  | .ints _ n _ => some n
  | _ => some 1

theorem RC.size {c : AV} {a : List Value} {z : Nat} (h : RC ρ S w N c a) (hz : csize c = some z) : a.length = z := by
  cases h <;> simp [csize] at hz <;> simp_all

def takeI (c : AV) (s : Nat) : Option (List AV) :=
  match c with
  | .ints k _ xs => some [.ints k s (xs.take s)]
  | _ => none
def takeC : List AV → Nat → Option (List AV)
  | [], 0 => some []
  | [], _ + 1 => none
  | c :: cs, s => if s = 0 then some [] else (csize c).bind fun z => if z ≤ s then (takeC cs (s - z)).map (c :: ·) else takeI c s
def dropC : List AV → Nat → Option (List AV)
  | [], 0 => some []
  | [], _ + 1 => none
  | c :: cs, s => if s = 0 then some (c :: cs) else (csize c).bind fun z => if z ≤ s then dropC cs (s - z) else none

theorem RC.take {cs : List AV} : ∀ {s : Nat} {ds : List AV} {a : List Value}, RC ρ S w N (.agg cs) a → takeC cs s = some ds → RC ρ S w N (.agg ds) (a.take s) ∧ s ≤ a.length := by
  induction cs with
  | nil =>
    intro s ds a h ht
    cases s <;> simp [takeC] at ht
    subst ht; cases h; exact ⟨by simpa using RC.nil, by simp⟩
  | cons c cs ih =>
    intro s ds a h ht
    rw [takeC] at ht
    split at ht
    · next h0 => subst h0; cases ht; exact ⟨by simpa using RC.nil, Nat.zero_le _⟩
    · cases hz : csize c with
      | none => rw [hz] at ht; cases ht
      | some z =>
        rw [hz] at ht
        simp only [Option.bind_some] at ht
        split at ht
        · next hle =>
          rw [Option.map_eq_some_iff] at ht
          obtain ⟨es, hes, rfl⟩ := ht
          cases h with
          | cons h1 h2 =>
            have hl := h1.size hz
            obtain ⟨h3, h4⟩ := ih h2 hes
            refine ⟨?_, by simp only [List.length_append]; omega⟩
            rw [List.take_append, List.take_of_length_le (by omega), hl]
            exact .cons h1 h3
        · next hle =>
          unfold takeI at ht
          split at ht
          · next k n xs =>
            cases ht
            cases h with
            | cons h1 h2 =>
              have hl := h1.size hz
              cases h1 with
              | ints hlen =>
                simp only [List.length_map] at hl
                refine ⟨?_, by simp only [List.length_append, List.length_map]; omega⟩
                have h5 : ∀ b : List Value, (xs.map (Value.int k) ++ b).take s = (xs.take s).map (Value.int k) ++ [] := fun b => by
                  rw [List.take_append_of_le_length (by simp only [List.length_map]; omega), List.map_take, List.append_nil]
                rw [h5]
                exact .cons (.ints (by rw [List.length_take]; omega)) .nil
          · cases ht

theorem RC.drop {cs : List AV} : ∀ {s : Nat} {ds : List AV} {a : List Value}, RC ρ S w N (.agg cs) a → dropC cs s = some ds → RC ρ S w N (.agg ds) (a.drop s) ∧ s ≤ a.length := by
  induction cs with
  | nil =>
    intro s ds a h ht
    cases s <;> simp [dropC] at ht
    subst ht; cases h; exact ⟨by simpa using RC.nil, by simp⟩
  | cons c cs ih =>
    intro s ds a h ht
    rw [dropC] at ht
    split at ht
    · next h0 => subst h0; cases ht; exact ⟨by simpa using h, Nat.zero_le _⟩
    · cases hz : csize c with
      | none => rw [hz] at ht; cases ht
      | some z =>
        rw [hz] at ht
        simp only [Option.bind_some] at ht
        split at ht
        · next hle =>
          cases h with
          | cons h1 h2 =>
            have hl := h1.size hz
            obtain ⟨h3, h4⟩ := ih h2 ht
            refine ⟨?_, by simp only [List.length_append]; omega⟩
            rw [List.drop_append, List.drop_eq_nil_of_le (by omega), hl]
            exact h3
        · cases ht

end

/-! ### A result, under a condition -/

abbrev Q (α : Type) := Option (Prop × α)
def ret {α : Type} (a : α) : Q α := some (True, a)
def req {α : Type} (φ : Prop) (x : Q α) : Q α :=
  match x with
  | none => none
  | some (ψ, a) => some (φ ∧ ψ, a)
def opt {α β : Type} (x : Option α) (f : α → Q β) : Q β :=
  match x with
  | none => none
  | some a => f a
def bnd {α β : Type} (x : Q α) (f : α → Q β) : Q β :=
  match x with
  | none => none
  | some (φ, a) => req φ (f a)
/-- The result is a, and the condition holds. -/
def Ok {α : Type} (x : Q α) (a : α) : Prop := ∃ φ : Prop, x = some (φ, a) ∧ φ
/-- Behind the result. -/
def onQ {α : Type} (x : Q α) (K : α → Prop) : Prop :=
  match x with
  | none => False
  | some (φ, a) => φ ∧ K a
theorem onQ_spec {α : Type} {x : Q α} {K : α → Prop} (h : onQ x K) : ∃ a, Ok x a ∧ K a := by
  match x, h with
  | some (φ, a), h => exact ⟨a, ⟨φ, rfl, h.1⟩, h.2⟩
theorem Ok.ret {α : Type} {a b : α} (h : Ok (ret a) b) : a = b := by
  obtain ⟨φ, h, _⟩ := h
  simp [Sx.ret] at h
  exact h.2
theorem Ok.none {α : Type} {b : α} (h : Ok (none : Q α) b) : False := by
  obtain ⟨φ, h, _⟩ := h
  cases h
theorem Ok.req {α : Type} {φ : Prop} {x : Q α} {b : α} (h : Ok (req φ x) b) : φ ∧ Ok x b := by
  obtain ⟨ψ, h, hψ⟩ := h
  match x, h with
  | some (χ, a), h => simp only [Sx.req, Option.some.injEq, Prod.mk.injEq] at h; obtain ⟨rfl, rfl⟩ := h; exact ⟨hψ.1, χ, rfl, hψ.2⟩
theorem Ok.opt {α β : Type} {x : Option α} {f : α → Q β} {b : β} (h : Ok (opt x f) b) : ∃ a, x = some a ∧ Ok (f a) b := by
  cases x with
  | none => exact h.none.elim
  | some a => exact ⟨a, rfl, h⟩
theorem Ok.bnd {α β : Type} {x : Q α} {f : α → Q β} {b : β} (h : Ok (bnd x f) b) : ∃ a, Ok x a ∧ Ok (f a) b := by
  match x, h with
  | .none, h => exact (Ok.none (b := b) h).elim
  | .some (φ, a), h => obtain ⟨h1, h2⟩ := Ok.req h; exact ⟨a, ⟨φ, rfl, h1⟩, h2⟩

section
variable {ρ : Nat → Nat} {S : Nat → Prop} {w : World} {N : Nat → Prop}

/-- The single part at o + i: o a place, i an index among numbers. -/
def ldS : List AV → Nat → Nat → Q AV
  | [], _, _ => none
  | c :: cs, o, i =>
    match c with
    | .agg _ => none
    | .tup _ => none
    | .ints k n xs => if o < n then req (o + i < n) (ret (.int k (xs.getD (o + i) 0))) else ldS cs (o - n) i
    | c => if o = 0 then req (i = 0) (ret c) else ldS cs (o - 1) i

theorem RC.ldS {cs : List AV} : ∀ {o i : Nat} {v : AV} {a : List Value}, RC ρ S w N (.agg cs) a → Ok (ldS cs o i) v → ∃ u, v.isAgg = false ∧ a[o + i]? = some u ∧ RC ρ S w N v [u] := by
  induction cs with
  | nil => intro o i v a _ h; exact h.none.elim
  | cons c cs ih =>
    intro o i v a h hl
    cases h with
    | cons h1 h2 =>
      rename_i a b
      have one : ∀ u, a = [u] → c.isAgg = false → Ok (if o = 0 then req (i = 0) (ret c) else Sx.ldS cs (o - 1) i) v → ∃ u, v.isAgg = false ∧ (a ++ b)[o + i]? = some u ∧ RC ρ S w N v [u] := by
        intro u hu hag hl
        subst hu
        split at hl
        · next h0 => obtain ⟨rfl, hk⟩ := hl.req; have := hk.ret; subst this; subst h0; exact ⟨u, hag, by simp, h1⟩
        · next h0 =>
          obtain ⟨u', hv, hg, hr⟩ := ih h2 hl
          refine ⟨u', hv, ?_, hr⟩
          rw [List.getElem?_append_right (by simp; omega)]
          simpa [show o + i - 1 = o - 1 + i from by omega] using hg
      cases h1 with
      | ints hn =>
        rename_i k n xs
        simp only [Sx.ldS] at hl
        split at hl
        · obtain ⟨hlt, hk⟩ := hl.req
          have := hk.ret
          subst this
          refine ⟨.int k (xs.getD (o + i) 0), rfl, ?_, .int⟩
          rw [List.getElem?_append_left (by simp; omega)]
          simp [List.getElem?_eq_getElem (show o + i < xs.length by omega)]
        · next h0 =>
          obtain ⟨u', hv, hg, hr⟩ := ih h2 hl
          refine ⟨u', hv, ?_, hr⟩
          rw [List.getElem?_append_right (by simp; omega)]
          simpa [hn, show o + i - n = o - n + i from by omega] using hg
      | nil => exact hl.none.elim
      | cons => exact hl.none.elim
      | _ => exact one _ rfl rfl hl

/-- Another single part at o + i. -/
def stS : List AV → Nat → Nat → AV → Q (List AV)
  | [], _, _, _ => none
  | c :: cs, o, i, v =>
    match c with
    | .agg _ => none
    | .tup _ => none
    | .ints k n xs => if o < n then (match v with | .int k' x => req (o + i < n ∧ k' = k) (ret (.ints k n (xs.set (o + i) x) :: cs)) | _ => none) else bnd (stS cs (o - n) i v) fun ds => ret (.ints k n xs :: ds)
    | c => if o = 0 then req (i = 0) (ret (v :: cs)) else bnd (stS cs (o - 1) i v) fun ds => ret (c :: ds)

theorem RC.stS {cs : List AV} {v : AV} {u : Value} (hv : RC ρ S w N v [u]) : ∀ {o i : Nat} {ds : List AV} {a : List Value}, RC ρ S w N (.agg cs) a → Ok (stS cs o i v) ds →
    o + i < a.length ∧ RC ρ S w N (.agg ds) (a.set (o + i) u) := by
  induction cs with
  | nil => intro o i ds a _ h; exact h.none.elim
  | cons c cs ih =>
    intro o i ds a h hl
    cases h with
    | cons h1 h2 =>
      rename_i a b
      have one : ∀ u', a = [u'] → Ok (if o = 0 then req (i = 0) (ret (v :: cs)) else bnd (Sx.stS cs (o - 1) i v) fun ds => ret (c :: ds)) ds → o + i < (a ++ b).length ∧ RC ρ S w N (.agg ds) ((a ++ b).set (o + i) u) := by
        intro u' hu hl
        subst hu
        split at hl
        · next h0 => obtain ⟨rfl, hk⟩ := hl.req; have := hk.ret; subst this; subst h0; exact ⟨by simp, by simpa using RC.cons hv h2⟩
        · next h0 =>
          obtain ⟨es, he, hl⟩ := hl.bnd
          have := hl.ret; subst this
          obtain ⟨hlt, hr⟩ := ih h2 he
          refine ⟨by simp; omega, ?_⟩
          rw [List.set_append_right _ _ (by simp; omega)]
          exact .cons h1 (by simpa [show o + i - 1 = o - 1 + i from by omega] using hr)
      cases h1 with
      | ints hn =>
        rename_i k n xs
        simp only [Sx.stS] at hl
        split at hl
        · cases v <;> first | exact hl.none.elim | skip
          obtain ⟨⟨hlt, rfl⟩, hk⟩ := hl.req
          have := hk.ret; subst this
          obtain rfl : u = Value.int _ _ := by cases hv; rfl
          refine ⟨by simp; omega, ?_⟩
          rw [List.set_append_left _ _ (by simp; omega), ← List.map_set]
          exact .cons (.ints (by simp [hn])) h2
        · next h0 =>
          obtain ⟨es, he, hl⟩ := hl.bnd
          have := hl.ret; subst this
          obtain ⟨hlt, hr⟩ := ih h2 he
          refine ⟨by simp; omega, ?_⟩
          rw [List.set_append_right _ _ (by simp; omega)]
          exact .cons (.ints hn) (by simpa [hn, show o + i - n = o - n + i from by omega] using hr)
      | nil => exact hl.none.elim
      | cons => exact hl.none.elim
      | _ => exact one _ rfl hl
end

def szL : List AV → Option Nat
  | [] => some 0
  | c :: cs => (csize c).bind fun z => (szL cs).map (z + ·)
theorem RC.szL {ρ : Nat → Nat} {S : Nat → Prop} {w : World} {N : Nat → Prop} {cs : List AV} : ∀ {a : List Value} {z : Nat}, RC ρ S w N (.agg cs) a → szL cs = some z → a.length = z := by
  induction cs with
  | nil => intro a z h hz; cases h; simp [Sx.szL] at hz; simp [hz]
  | cons c cs ih =>
    intro a z h hz
    simp only [Sx.szL, Option.bind_eq_some_iff, Option.map_eq_some_iff] at hz
    obtain ⟨z1, h1, z2, h2, rfl⟩ := hz
    cases h with
    | cons h3 h4 => rw [List.length_append, h3.size h1, ih h4 h2]

end Sx
