/- Abstract values and how a Go value of the model reads as one. -/
import Derived.WalkKit
import Derived.Laws.IdiomCopy
set_option linter.unusedVariables false
set_option linter.unusedSimpArgs false
namespace Sx
open Go

/-- Abstract values. `agg` is a struct or an array (its cells one behind the other; `ints` is n cells of one integer kind). `ptr`, `sl`, `mp` name a block of the call's own; `fn f cap`: a function with what it captured; `fn f (.nilf :: bnd)`: a function with its first arguments. `lstI`, `lstS`, `lst` are slices by value, that nobody writes; `pel` points at cells that nobody writes. -/
inductive AV where
  | int (k : IntKind) (n : Int)
  | bool (b : Bool)
  | str (s : ByteArray)
  | ints (k : IntKind) (n : Nat) (xs : List Int)
  | agg (cs : List AV)
  | tup (l : List AV)
  | ptr (nm o i sz : Nat)
  | pel (v : AV)
  | sl (nm sz off len : Nat)
  | nils | nilp | nilf | nili | nilm
  | lstI (k : IntKind) (xs : List Int)
  | lstS (ss : List ByteArray)
  | lst (sz : Nat) (l : List AV)
  | fn (f : Fn) (cap : List AV)
  | ifc (t : TypeId) (v : AV)
  | mp (nm : Nat)
  | unk
  deriving Inhabited

mutual
/-- The names renamed. -/
def AV.map (f : Nat → Nat) : AV → AV
  | .int k n => .int k n
  | .bool b => .bool b
  | .str s => .str s
  | .ints k n xs => .ints k n xs
  | .agg cs => .agg (AV.mapL f cs)
  | .tup l => .tup (AV.mapL f l)
  | .ptr nm o i sz => .ptr (f nm) o i sz
  | .pel v => .pel v
  | .sl nm sz off len => .sl (f nm) sz off len
  | .nils => .nils
  | .nilp => .nilp
  | .nilf => .nilf
  | .nili => .nili
  | .nilm => .nilm
  | .lstI k xs => .lstI k xs
  | .lstS ss => .lstS ss
  | .lst sz l => .lst sz l
  | .fn g cap => .fn g (AV.mapL f cap)
  | .ifc t v => .ifc t (AV.map f v)
  | .mp nm => .mp (f nm)
  | .unk => .unk
def AV.mapL (f : Nat → Nat) : List AV → List AV
  | [] => []
  | a :: l => AV.map f a :: AV.mapL f l
end

def AV.isAgg : AV → Bool
  | .agg _ => true
  | .ints _ _ _ => true
  | _ => false
/-- The value that cells are. -/
def shape (a : AV) (cs : List Value) : Value := bif a.isAgg then .agg cs.toArray else cs.headD (.tuple #[])

/-- No name. -/
def NoNm : Nat → Prop := fun _ => False
/-- A block of so many cells. -/
def Rw (w : World) (b n : Nat) : Prop := ∃ (c : Array Value) (T : TypeId) (fr : Nat × Nat), w.heap[b]? = some (Obj.cells c T fr) ∧ c.size = n
theorem Rw.lt {w : World} {b n : Nat} (h : Rw w b n) : b < w.heap.size := by obtain ⟨c, T, fr, h, _⟩ := h; exact (Array.getElem?_eq_some_iff.1 h).1
theorem Rw.congr {w w' : World} {b n : Nat} (e : w'.heap[b]? = w.heap[b]?) (h : Rw w b n) : Rw w' b n := by obtain ⟨c, T, fr, h, h2⟩ := h; exact ⟨c, T, fr, e.trans h, h2⟩
/-- Cells `cs` read as the abstract value. `N`: the names that may occur. `S`: the blocks that nobody writes. -/
inductive RC (ρ : Nat → Nat) (S : Nat → Prop) (w : World) : (Nat → Prop) → AV → List Value → Prop
  | int {N k n} : RC ρ S w N (.int k n) [.int k n]
  | bool {N b} : RC ρ S w N (.bool b) [.bool b]
  | str {N s} : RC ρ S w N (.str s) [.string s]
  | ints {N k n xs} (h : xs.length = n) : RC ρ S w N (.ints k n xs) (xs.map (Value.int k))
  | nil {N} : RC ρ S w N (.agg []) []
  | cons {N c cs a b} (h1 : RC ρ S w N c a) (h2 : RC ρ S w N (.agg cs) b) : RC ρ S w N (.agg (c :: cs)) (a ++ b)
  | ptr {N nm o i sz} (h : N nm) : RC ρ S w N (.ptr nm o i sz) [.pointer (some ⟨ρ nm, o + i * sz, none⟩)]
  | pel {N v b o cs} (h : RC ρ S w NoNm v cs) (hs : S b) (hc : ∀ j u, cs[j]? = some u → w.cell? ⟨b, o + j, none⟩ = some u) : RC ρ S w N (.pel v) [.pointer (some ⟨b, o, none⟩)]
  | sl {N nm sz off len cap a n} (h : N nm) (ha : a = ⟨ρ nm, off * sz, none⟩ ∨ (cap = 0 ∧ a.block = ρ nm ∧ a.spot = none)) (hl : len ≤ cap) (hm : cap ≤ maxLen)
      (hb : Rw w (ρ nm) n) (hc : (off + cap) * sz = n) : RC ρ S w N (.sl nm sz off len) [.slice (some a) len cap]
  | nils {N} : RC ρ S w N .nils [.slice none 0 0]
  | nilp {N} : RC ρ S w N .nilp [.pointer none]
  | nilf {N} : RC ρ S w N .nilf [.nilFunc]
  | nili {N} : RC ρ S w N .nili [.nilIface]
  | nilm {N} : RC ρ S w N .nilm [.map none]
  | lstI {N k xs a cap} (hl : xs.length ≤ cap) (hm : cap ≤ maxLen)
      (hc : ∀ i x, xs[i]? = some x → ∃ b o, a = some ⟨b, o, none⟩ ∧ S b ∧ w.cell? ⟨b, o + i, none⟩ = some (.int k x)) : RC ρ S w N (.lstI k xs) [.slice a xs.length cap]
  | lstS {N ss a cap} (hl : ss.length ≤ cap) (hm : cap ≤ maxLen)
      (hc : ∀ i x, ss[i]? = some x → ∃ b o, a = some ⟨b, o, none⟩ ∧ S b ∧ w.cell? ⟨b, o + i, none⟩ = some (.string x)) : RC ρ S w N (.lstS ss) [.slice a ss.length cap]
  | lst {N sz l a cap} (vs : Nat → List Value) (hl : l.length ≤ cap) (hm : cap ≤ maxLen) (hr : ∀ i x, l[i]? = some x → RC ρ S w NoNm x (vs i))
      (hc : ∀ i x, l[i]? = some x → (vs i).length = sz ∧ ∃ b o, a = some ⟨b, o, none⟩ ∧ S b ∧ ∀ j u, (vs i)[j]? = some u → w.cell? ⟨b, o + i * sz + j, none⟩ = some u) :
      RC ρ S w N (.lst sz l) [.slice a l.length cap]
  | fn {N f cap} (vs : Nat → List Value) (hr : ∀ i x, cap[i]? = some x → RC ρ S w N x (vs i)) (hne : ∀ l, cap ≠ .nilf :: l) :
      RC ρ S w N (.fn f cap) [.func f #[] (cap.zipIdx.map fun (x, i) => shape x (vs i)).toArray]
  | fnb {N f bnd} (vs : Nat → List Value) (hr : ∀ i x, bnd[i]? = some x → RC ρ S w N x (vs i)) :
      RC ρ S w N (.fn f (.nilf :: bnd)) [.func f (bnd.zipIdx.map fun (x, i) => shape x (vs i)).toArray #[]]
  | ifc {N t v cs} (h : RC ρ S w N v cs) : RC ρ S w N (.ifc t v) [.iface t (shape v cs)]
  | mp {N nm} (h : N nm) : RC ρ S w N (.mp nm) [.map (some (ρ nm))]
  | unk {N v} (h : v.oneCell' = true) (h2 : v.cells = #[v]) : RC ρ S w N .unk [v]

/-- What a later world keeps of an earlier one. -/
structure Evo (S S' : Nat → Prop) (w w' : World) : Prop where
  stable : ∀ b : Nat, S b → S' b ∧ w'.heap[b]? = w.heap[b]?
  sized : ∀ b n : Nat, Rw w b n → Rw w' b n

theorem Evo.cell {S S' : Nat → Prop} {w w' : World} (h : Evo S S' w w') {b o : Nat} (hb : S b) : w'.cell? ⟨b, o, none⟩ = w.cell? ⟨b, o, none⟩ := by
  simp [World.cell?, (h.stable b hb).2]

theorem RC.mono {ρ ρ' : Nat → Nat} {S S' : Nat → Prop} {w w' : World} {N : Nat → Prop} {a : AV} {cs : List Value} (h : RC ρ S w N a cs) (he : Evo S S' w w') :
    ∀ N' : Nat → Prop, (∀ n, N n → N' n ∧ ρ' n = ρ n) → RC ρ' S' w' N' a cs := by
  induction h with
  | int => intro N' _; exact .int
  | bool => intro N' _; exact .bool
  | str => intro N' _; exact .str
  | ints h => intro N' _; exact .ints h
  | nil => intro N' _; exact .nil
  | cons _ _ ih1 ih2 => intro N' hN; exact .cons (ih1 N' hN) (ih2 N' hN)
  | ptr h => intro N' hN; rw [← (hN _ h).2]; exact .ptr (hN _ h).1
  | pel _ hs hc ih => intro N' hN; exact .pel (ih NoNm (fun _ h => h.elim)) (he.stable _ hs).1 (fun j u hj => (he.cell hs).trans (hc j u hj))
  | sl h ha hl hm hb hc =>
    intro N' hN
    have e := (hN _ h).2
    exact .sl (hN _ h).1 (by rw [e]; exact ha) hl hm (by rw [e]; exact he.sized _ _ hb) hc
  | nils => intro N' _; exact .nils
  | nilp => intro N' _; exact .nilp
  | nilf => intro N' _; exact .nilf
  | nili => intro N' _; exact .nili
  | nilm => intro N' _; exact .nilm
  | lstI hl hm hc => intro N' _; exact .lstI hl hm (fun i x hi => let ⟨b, o, h1, h2, h3⟩ := hc i x hi; ⟨b, o, h1, (he.stable b h2).1, (he.cell h2).trans h3⟩)
  | lstS hl hm hc => intro N' _; exact .lstS hl hm (fun i x hi => let ⟨b, o, h1, h2, h3⟩ := hc i x hi; ⟨b, o, h1, (he.stable b h2).1, (he.cell h2).trans h3⟩)
  | lst vs hl hm _ hc ih =>
    intro N' _
    exact .lst vs hl hm (fun i x hi => ih i x hi NoNm (fun _ h => h.elim))
      (fun i x hi => let ⟨h0, b, o, h1, h2, h3⟩ := hc i x hi; ⟨h0, b, o, h1, (he.stable b h2).1, fun j u hj => (he.cell h2).trans (h3 j u hj)⟩)
  | fn vs _ hne ih => intro N' hN; exact .fn vs (fun i x hi => ih i x hi N' hN) hne
  | fnb vs _ ih => intro N' hN; exact .fnb vs (fun i x hi => ih i x hi N' hN)
  | ifc _ ih => intro N' hN; exact .ifc (ih N' hN)
  | mp h => intro N' hN; rw [← (hN _ h).2]; exact .mp (hN _ h).1
  | unk h h2 => intro N' hN; exact .unk h h2

theorem Evo.refl {S : Nat → Prop} (w : World) : Evo S S w w := ⟨fun _ h => ⟨h, rfl⟩, fun _ _ h => h⟩
theorem Evo.trans {S S' S'' : Nat → Prop} {w w' w'' : World} (h : Evo S S' w w') (h' : Evo S' S'' w' w'') : Evo S S'' w w'' :=
  ⟨fun b hb => ⟨(h'.stable b (h.stable b hb).1).1, (h'.stable b (h.stable b hb).1).2.trans (h.stable b hb).2⟩,
   fun b n hb => h'.sized b n (h.sized b n hb)⟩

theorem AV.mapL_eq (f : Nat → Nat) (l : List AV) : AV.mapL f l = l.map (AV.map f) := by
  induction l with
  | nil => simp [AV.mapL]
  | cons a l ih => simp [AV.mapL, ih]

theorem shape_map (f : Nat → Nat) (a : AV) (cs : List Value) : shape (a.map f) cs = shape a cs := by
  have e : (a.map f).isAgg = a.isAgg := by cases a <;> rfl
  simp only [shape, e]

theorem RC.map {ρ : Nat → Nat} {S : Nat → Prop} {w : World} {N : Nat → Prop} {a : AV} {cs : List Value} {τ : Nat → Nat} (h : RC (fun n => ρ (τ n)) S w N a cs) :
    ∀ N' : Nat → Prop, (∀ n, N n → N' (τ n)) → RC ρ S w N' (a.map τ) cs := by
  have z : ∀ {v : AV} {l : List Value}, RC (fun n => ρ (τ n)) S w NoNm v l → RC ρ S w NoNm v l :=
    fun h => h.mono (Evo.refl w) NoNm (fun _ h => h.elim)
  induction h with
  | int => intro N' _; exact .int
  | bool => intro N' _; exact .bool
  | str => intro N' _; exact .str
  | ints h => intro N' _; exact .ints h
  | nil => intro N' _; exact .nil
  | cons _ _ ih1 ih2 => intro N' hN; simp only [AV.map, AV.mapL]; exact .cons (ih1 N' hN) (by simpa only [AV.map] using ih2 N' hN)
  | ptr h => intro N' hN; exact .ptr (ρ := ρ) (hN _ h)
  | pel h hs hc ih => intro N' hN; exact .pel (z h) hs hc
  | sl h ha hl hm hb hc => intro N' hN; exact .sl (ρ := ρ) (hN _ h) ha hl hm hb hc
  | nils => intro N' _; exact .nils
  | nilp => intro N' _; exact .nilp
  | nilf => intro N' _; exact .nilf
  | nili => intro N' _; exact .nili
  | nilm => intro N' _; exact .nilm
  | lstI hl hm hc => intro N' _; exact .lstI hl hm hc
  | lstS hl hm hc => intro N' _; exact .lstS hl hm hc
  | lst vs hl hm hr hc ih => intro N' _; exact .lst vs hl hm (fun i x hi => z (hr i x hi)) hc
  | fn vs hr hne ih =>
    intro N' hN
    have e : ∀ l : List AV, ((l.map (AV.map τ)).zipIdx.map fun (x, i) => shape x (vs i)) = (l.zipIdx.map fun (x, i) => shape x (vs i)) := by
      intro l
      simp [List.zipIdx_map, List.map_map, Function.comp_def, shape_map]
    simp only [AV.map, AV.mapL_eq]
    rw [← e]
    refine .fn vs (fun i x hi => ?_) (fun l hl => ?_)
    · rw [List.getElem?_map, Option.map_eq_some_iff] at hi
      obtain ⟨y, hy, rfl⟩ := hi
      exact ih i y hy N' hN
    · rw [List.map_eq_cons_iff] at hl
      obtain ⟨a, l', hc, ha, _⟩ := hl
      cases a <;> simp [AV.map] at ha
      exact hne _ hc
  | fnb vs hr ih =>
    intro N' hN
    have e : ∀ l : List AV, ((l.map (AV.map τ)).zipIdx.map fun (x, i) => shape x (vs i)) = (l.zipIdx.map fun (x, i) => shape x (vs i)) := by
      intro l
      simp [List.zipIdx_map, List.map_map, Function.comp_def, shape_map]
    simp only [AV.map, AV.mapL, AV.mapL_eq]
    rw [← e]
    refine .fnb vs (fun i x hi => ?_)
    rw [List.getElem?_map, Option.map_eq_some_iff] at hi
    obtain ⟨y, hy, rfl⟩ := hi
    exact ih i y hy N' hN
  | ifc h ih => intro N' hN; simp only [AV.map]; rw [← shape_map τ]; exact .ifc (ih N' hN)
  | mp h => intro N' hN; exact .mp (ρ := ρ) (hN _ h)
  | unk h h2 => intro N' hN; exact .unk h h2

mutual
/-- Every name is one of N. -/
def AV.nmIn (N : Nat → Prop) : AV → Prop
  | .agg cs => AV.nmInL N cs
  | .tup l => AV.nmInL N l
  | .ptr nm _ _ _ => N nm
  | .sl nm _ _ _ => N nm
  | .fn _ cap => AV.nmInL N cap
  | .ifc _ v => AV.nmIn N v
  | .mp nm => N nm
  | _ => True
def AV.nmInL (N : Nat → Prop) : List AV → Prop
  | [] => True
  | a :: l => AV.nmIn N a ∧ AV.nmInL N l
end
theorem AV.nmInL_get {N : Nat → Prop} : ∀ {l : List AV}, AV.nmInL N l → ∀ (i : Nat) x, l[i]? = some x → AV.nmIn N x
  | [], _, i, x, h => by simp at h
  | a :: l, hb, 0, x, h => by simp at h; subst h; exact hb.1
  | a :: l, hb, i + 1, x, h => AV.nmInL_get (l := l) hb.2 i x (by simpa using h)

theorem RC.unmap {ρ : Nat → Nat} {S : Nat → Prop} {w : World} {N' : Nat → Prop} {x : AV} {cs : List Value} {τ : Nat → Nat} (h : RC ρ S w N' x cs) :
    ∀ (a : AV) (N : Nat → Prop), a.map τ = x → a.nmIn N → RC (fun n => ρ (τ n)) S w N a cs := by
  have z : ∀ {v : AV} {l : List Value}, RC ρ S w NoNm v l → RC (fun n => ρ (τ n)) S w NoNm v l :=
    fun h => h.mono (Evo.refl w) NoNm (fun _ h => h.elim)
  induction h with
  | int => intro a N hx hb; cases a <;> simp [AV.map] at hx; obtain ⟨rfl, rfl⟩ := hx; exact .int
  | bool => intro a N hx hb; cases a <;> simp [AV.map] at hx; subst hx; exact .bool
  | str => intro a N hx hb; cases a <;> simp [AV.map] at hx; subst hx; exact .str
  | ints h => intro a N hx hb; cases a <;> simp [AV.map] at hx; obtain ⟨rfl, rfl, rfl⟩ := hx; exact .ints h
  | nil =>
    intro a N hx hb; cases a <;> simp [AV.map] at hx
    rename_i cs; cases cs with
    | nil => exact .nil
    | cons c l => simp [AV.mapL] at hx
  | cons _ _ ih1 ih2 =>
    intro a N hx hb; cases a <;> simp [AV.map] at hx
    rename_i cs; cases cs with
    | nil => simp [AV.mapL] at hx
    | cons c l => simp [AV.mapL] at hx; exact .cons (ih1 _ _ hx.1 hb.1) (ih2 _ _ (by simp [AV.map, hx.2]) hb.2)
  | ptr h => intro a N hx hb; cases a <;> simp [AV.map] at hx; obtain ⟨rfl, rfl, rfl, rfl⟩ := hx; exact .ptr (ρ := fun n => ρ (τ n)) hb
  | pel h hs hc ih => intro a N hx hb; cases a <;> simp [AV.map] at hx; subst hx; exact .pel (z h) hs hc
  | sl h ha hl hm hb hc => intro a N hx hb'; cases a <;> simp [AV.map] at hx; obtain ⟨rfl, rfl, rfl, rfl⟩ := hx; exact .sl (ρ := fun n => ρ (τ n)) hb' ha hl hm hb hc
  | nils => intro a N hx hb; cases a <;> simp [AV.map] at hx; exact .nils
  | nilp => intro a N hx hb; cases a <;> simp [AV.map] at hx; exact .nilp
  | nilf => intro a N hx hb; cases a <;> simp [AV.map] at hx; exact .nilf
  | nili => intro a N hx hb; cases a <;> simp [AV.map] at hx; exact .nili
  | nilm => intro a N hx hb; cases a <;> simp [AV.map] at hx; exact .nilm
  | lstI hl hm hc => intro a N hx hb; cases a <;> simp [AV.map] at hx; obtain ⟨rfl, rfl⟩ := hx; exact .lstI hl hm hc
  | lstS hl hm hc => intro a N hx hb; cases a <;> simp [AV.map] at hx; subst hx; exact .lstS hl hm hc
  | lst vs hl hm hr hc ih => intro a N hx hb; cases a <;> simp [AV.map] at hx; obtain ⟨rfl, rfl⟩ := hx; exact .lst vs hl hm (fun i x hi => z (hr i x hi)) hc
  | fn vs hr hne ih =>
    intro a N hx hb; cases a <;> simp [AV.map] at hx
    rename_i f cap
    obtain ⟨rfl, rfl⟩ := hx
    have e : ((AV.mapL τ cap).zipIdx.map fun (x, i) => shape x (vs i)) = (cap.zipIdx.map fun (x, i) => shape x (vs i)) := by
      simp [AV.mapL_eq, List.zipIdx_map, List.map_map, Function.comp_def, shape_map]
    rw [e]
    refine .fn vs (fun i x hi => ih i (x.map τ) ?_ x N rfl (AV.nmInL_get hb i x hi)) (fun l hl => ?_)
    · simp [AV.mapL_eq, hi]
    · rw [hl] at hne
      exact hne (AV.mapL τ l) (by simp [AV.mapL, AV.map])
  | fnb vs hr ih =>
    intro a N hx hb; cases a <;> simp [AV.map] at hx
    rename_i f cap
    obtain ⟨rfl, hx⟩ := hx
    cases cap with
    | nil => simp [AV.mapL] at hx
    | cons c l =>
      simp only [AV.mapL, List.cons.injEq] at hx
      obtain ⟨h1, rfl⟩ := hx
      cases c <;> simp [AV.map] at h1
      have e : ((AV.mapL τ l).zipIdx.map fun (x, i) => shape x (vs i)) = (l.zipIdx.map fun (x, i) => shape x (vs i)) := by
        simp [AV.mapL_eq, List.zipIdx_map, List.map_map, Function.comp_def, shape_map]
      rw [e]
      refine .fnb vs (fun i x hi => ih i (x.map τ) ?_ x N rfl (AV.nmInL_get hb.2 i x hi))
      simp [AV.mapL_eq, hi]
  | ifc h ih => intro a N hx hb; cases a <;> simp [AV.map] at hx; obtain ⟨rfl, rfl⟩ := hx; rw [shape_map]; exact .ifc (ih _ _ rfl hb)
  | mp h => intro a N hx hb; cases a <;> simp [AV.map] at hx; subst hx; exact .mp (ρ := fun n => ρ (τ n)) hb
  | unk h h2 => intro a N hx hb; cases a <;> simp [AV.map] at hx; exact .unk h h2

end Sx

/- The blocks that a call owns, and what each step keeps. -/
set_option linter.unusedVariables false
set_option linter.unusedSimpArgs false
namespace Sx
open Go

/-- Elements one behind the other. -/
inductive Row where
  | ints (k : IntKind) (xs : List Int)
  | strs (ss : List ByteArray)
  | avs (sz : Nat) (l : List AV)
  deriving Inhabited

/-- A map's value. -/
inductive Kv where
  | int (n : Int)
  | str (s : ByteArray)
  | bool (b : Bool)
  deriving Inhabited
def Kv.av : Kv → AV
  | .int n => .int .i64 n
  | .str s => .str s
  | .bool b => .bool b
def Kv.val : Kv → Value
  | .int n => .int .i64 n
  | .str s => .string s
  | .bool b => .bool b
/-- A map: the numbers that it has, each true; or strings, each with a value; in the order in which they came. -/
inductive Mp where
  | ints (s : List Int)
  | strs (l : List (ByteArray × Kv))
  deriving Inhabited
def Mp.ents : Mp → List (Value × Value)
  | .ints s => s.map fun k => (.int .i64 k, .bool true)
  | .strs l => l.map fun p => (.string p.1, p.2.val)
def Mp.len : Mp → Nat
  | .ints s => s.length
  | .strs l => l.length
theorem Mp.ents_len (m : Mp) : m.ents.length = m.len := by cases m <;> simp [Mp.ents, Mp.len]
/-- What a block of one's own holds: one value, or a row that may have room behind it. -/
inductive Ent where
  | obj (T : TypeId) (v : AV)
  | vec (T : TypeId) (r : Row)
  | mset (s : Mp)
  deriving Inhabited

def lk {α : Type} : List (Nat × α) → Nat → Option α
  | [], _ => none
  | (k, a) :: l, n => if k = n then some a else lk l n

abbrev Ents := List (Nat × Ent)

inductive RowC (ρ : Nat → Nat) (S : Nat → Prop) (w : World) (N : Nat → Prop) : Row → List Value → Prop
  | ints {k xs} : RowC ρ S w N (.ints k xs) (xs.map (Value.int k))
  | strs {ss} : RowC ρ S w N (.strs ss) (ss.map Value.string)
  | nil {sz} : RowC ρ S w N (.avs sz []) []
  | cons {sz x l a b} (h1 : RC ρ S w N x a) (hz : a.length = sz) (h2 : RowC ρ S w N (.avs sz l) b) : RowC ρ S w N (.avs sz (x :: l)) (a ++ b)

/-- Block b's cells; no cell of them is frozen. -/
def Cel (w : World) (b : Nat) (c : Array Value) (T : TypeId) : Prop := ∃ fr : Nat × Nat, w.heap[b]? = some (Obj.cells c T fr) ∧ (fr = (0, 0) ∨ fr = (c.size, c.size + 1))
theorem Cel.rw {w : World} {b : Nat} {c : Array Value} {T : TypeId} (h : Cel w b c T) : Rw w b c.size := by obtain ⟨fr, h, _⟩ := h; exact ⟨c, T, fr, h, rfl⟩
theorem Cel.lt {w : World} {b : Nat} {c : Array Value} {T : TypeId} (h : Cel w b c T) : b < w.heap.size := h.rw.lt
theorem Cel.congr {w w' : World} {b : Nat} {c : Array Value} {T : TypeId} (e : w'.heap[b]? = w.heap[b]?) (h : Cel w b c T) : Cel w' b c T := by obtain ⟨fr, h, h2⟩ := h; exact ⟨fr, e.trans h, h2⟩
theorem Cel.inj {w : World} {b : Nat} {c c' : Array Value} {T T' : TypeId} (h : Cel w b c T) (h' : Cel w b c' T') : c' = c ∧ T' = T := by
  obtain ⟨fr, h, _⟩ := h
  obtain ⟨fr', h', _⟩ := h'
  rw [h] at h'; cases h'; exact ⟨rfl, rfl⟩
theorem Cel.cell {w : World} {b : Nat} {c : Array Value} {T : TypeId} (h : Cel w b c T) (j : Nat) : w.cell? ⟨b, j, none⟩ = c[j]? := by obtain ⟨fr, h, _⟩ := h; simp [World.cell?, h]
theorem Cel.frozen {w : World} {b : Nat} {c : Array Value} {T : TypeId} (h : Cel w b c T) {j : Nat} (hj : j < c.size) : w.frozen? ⟨b, j, none⟩ = false := by
  obtain ⟨fr, h, hfr⟩ := h
  rcases hfr with rfl | rfl <;> simp [World.frozen?, h] <;> omega
/-- Block b holds it. -/
inductive EntR (ρ : Nat → Nat) (S : Nat → Prop) (w : World) (N : Nat → Prop) (b : Nat) : Ent → Prop
  | obj {T v cs} (h : RC ρ S w N v cs) (hb : Cel w b cs.toArray T) : EntR ρ S w N b (.obj T v)
  | vec {T r cs c} (h : RowC ρ S w N r cs) (hb : Cel w b c T) (hc : c.toList.take cs.length = cs) : EntR ρ S w N b (.vec T r)
  /-- A map from numbers to bools: those that it has, each true, in the order in which they came. -/
  | mset {s es clock} (hs : es.toList.map (fun x : MapEntry => (x.key, x.val)) = s.ents ∧ clock = es.size ∧ ∀ (j : Nat) e, es[j]? = some e → e.born = j) (hb : w.heap[b]? = some (Obj.map es clock)) : EntR ρ S w N b (.mset s)

theorem RowC.mono {ρ ρ' : Nat → Nat} {S S' : Nat → Prop} {w w' : World} {N N' : Nat → Prop} {r : Row} {cs : List Value} (h : RowC ρ S w N r cs) (he : Evo S S' w w')
    (hN : ∀ n, N n → N' n ∧ ρ' n = ρ n) : RowC ρ' S' w' N' r cs := by
  induction h with
  | ints => exact .ints
  | strs => exact .strs
  | nil => exact .nil
  | cons h1 hz _ ih => exact .cons (h1.mono he N' hN) hz ih

theorem EntR.mono {ρ ρ' : Nat → Nat} {S S' : Nat → Prop} {w w' : World} {N N' : Nat → Prop} {b : Nat} {x : Ent} (h : EntR ρ S w N b x) (he : Evo S S' w w')
    (hN : ∀ n, N n → N' n ∧ ρ' n = ρ n) (hb : w'.heap[b]? = w.heap[b]?) : EntR ρ' S' w' N' b x := by
  cases h with
  | obj h h1 => exact .obj (h.mono he N' hN) (h1.congr hb)
  | vec h h1 h2 => exact .vec (h.mono he hN) (h1.congr hb) h2
  | mset hs h1 => exact .mset hs (hb.trans h1)

/-- The blocks that are there and that no entry owns. -/
def Stab (B : Nat → Prop) (ρ : Nat → Nat) (e : Ents) (w : World) (b : Nat) : Prop := B b ∧ b < w.heap.size ∧ ∀ m x, lk e m = some x → ρ m ≠ b

/-- The entries hold in the world. -/
structure Mem (B : Nat → Prop) (ρ : Nat → Nat) (D : Nat → Prop) (e : Ents) (w : World) : Prop where
  en : ∀ m x, lk e m = some x → D m ∧ EntR ρ (Stab B ρ e w) w D (ρ m) x
  inj : ∀ m m' x x', lk e m = some x → lk e m' = some x' → ρ m = ρ m' → m = m'

/-- What a step keeps. -/
structure Evol (B : Nat → Prop) (ρ : Nat → Nat) (D : Nat → Prop) (e : Ents) (w : World) (ρ' : Nat → Nat) (D' : Nat → Prop) (e' : Ents) (w' : World) : Prop where
  evo : Evo (Stab B ρ e w) (Stab B ρ' e' w') w w'
  agree : ∀ n, D n → D' n ∧ ρ' n = ρ n
  fresh : ∀ m x, lk e' m = some x → (∃ m0 x0, lk e m0 = some x0 ∧ ρ' m = ρ m0) ∨ w.heap.size ≤ ρ' m
  size : w.heap.size ≤ w'.heap.size
  os : w'.os = w.os
  out : w'.output = w.output
  tape : w'.tape = w.tape
  others : ∀ b : Nat, b < w.heap.size → (∀ m x, lk e m = some x → ρ m ≠ b) → w'.heap[b]? = w.heap[b]?

/-- A tmp's value. -/
inductive RV (ρ : Nat → Nat) (S : Nat → Prop) (w : World) (N : Nat → Prop) : AV → Value → Prop
  | one {a cs} (h : RC ρ S w N a cs) : RV ρ S w N a (shape a cs)
  | tup {l : List AV} {vs : List Value} (hl : vs.length = l.length) (h : ∀ (i : Nat) (x : AV), l[i]? = some x → ∃ cs, RC ρ S w N x cs ∧ vs[i]? = some (shape x cs)) : RV ρ S w N (.tup l) (.tuple vs.toArray)

theorem RV.mono {ρ ρ' : Nat → Nat} {S S' : Nat → Prop} {w w' : World} {N N' : Nat → Prop} {a : AV} {v : Value} (h : RV ρ S w N a v) (he : Evo S S' w w')
    (hN : ∀ n, N n → N' n ∧ ρ' n = ρ n) : RV ρ' S' w' N' a v := by
  cases h with
  | one h => exact .one (h.mono he N' hN)
  | tup hl h => exact .tup hl (fun i x hi => let ⟨cs, h1, h2⟩ := h i x hi; ⟨cs, h1.mono he N' hN, h2⟩)

theorem Evol.refl {B : Nat → Prop} {ρ : Nat → Nat} {D : Nat → Prop} {e : Ents} (w : World) : Evol B ρ D e w ρ D e w :=
  ⟨Evo.refl w, fun _ h => ⟨h, rfl⟩, fun m x h => .inl ⟨m, x, h, rfl⟩, Nat.le_refl _, rfl, rfl, rfl, fun _ _ _ => rfl⟩

theorem Evol.trans {B : Nat → Prop} {ρ ρ' ρ'' : Nat → Nat} {D D' D'' : Nat → Prop} {e e' e'' : Ents} {w w' w'' : World}
    (h : Evol B ρ D e w ρ' D' e' w') (h' : Evol B ρ' D' e' w' ρ'' D'' e'' w'') : Evol B ρ D e w ρ'' D'' e'' w'' where
  evo := h.evo.trans h'.evo
  agree n hn := ⟨(h'.agree n (h.agree n hn).1).1, (h'.agree n (h.agree n hn).1).2.trans (h.agree n hn).2⟩
  fresh m x hm := by
    rcases h'.fresh m x hm with ⟨m0, x0, h0, e0⟩ | hf
    · rcases h.fresh m0 x0 h0 with ⟨m1, x1, h1, e1⟩ | hf
      · exact .inl ⟨m1, x1, h1, e0.trans e1⟩
      · exact .inr (e0 ▸ hf)
    · exact .inr (Nat.le_trans h.size hf)
  size := Nat.le_trans h.size h'.size
  os := h'.os.trans h.os
  out := h'.out.trans h.out
  tape := h'.tape.trans h.tape
  others b hb hn := (h'.others b (Nat.lt_of_lt_of_le hb h.size) (fun m x hm => by
    rcases h.fresh m x hm with ⟨m0, x0, h0, e0⟩ | hf
    · rw [e0]; exact hn m0 x0 h0
    · omega)).trans (h.others b hb hn)

theorem Mem.block_lt {B : Nat → Prop} {ρ : Nat → Nat} {D : Nat → Prop} {e : Ents} {w : World} (h : Mem B ρ D e w) {m : Nat} {x : Ent} (hm : lk e m = some x) : ρ m < w.heap.size := by
  have h2 := (h.en m x hm).2
  cases h2 with
  | obj _ hb => exact hb.lt
  | vec _ hb _ => exact hb.lt
  | mset _ hb => exact (Array.getElem?_eq_some_iff.1 hb).1

theorem alloc_old (w : World) (o : Obj) (b : Nat) (h : b < w.heap.size) : (w.alloc o).heap[b]? = w.heap[b]? := by
  show (w.heap.push o)[b]? = _
  rw [Array.getElem?_push, if_neg (by omega)]
theorem alloc_new (w : World) (o : Obj) : (w.alloc o).heap[w.heap.size]? = some o := by
  show (w.heap.push o)[w.heap.size]? = _
  rw [Array.getElem?_push, if_pos rfl]
theorem Cel.new (w : World) (c : Array Value) (T : TypeId) : Cel (w.alloc (.cells c T)) w.heap.size c T := ⟨(0, 0), alloc_new w _, .inl rfl⟩

/-- A new block of one's own. -/
theorem Mem.alloc {B : Nat → Prop} {ρ : Nat → Nat} {D : Nat → Prop} {e e' : Ents} {w : World} (h : Mem B ρ D e w) (nb : Nat) (hnb : ¬ D nb) (o : Obj) (x : Ent) (he : ∀ m, lk e' m = if nb = m then some x else lk e m)
    (hx : ∀ (ρ' : Nat → Nat) (D' : Nat → Prop), (∀ n, D n → D' n ∧ ρ' n = ρ n) → Evo (Stab B ρ e w) (Stab B ρ' e' (w.alloc o)) w (w.alloc o) → EntR ρ' (Stab B ρ' e' (w.alloc o)) (w.alloc o) D' w.heap.size x) :
    ∃ ρ', ρ' nb = w.heap.size ∧ Mem B ρ' (fun n => D n ∨ n = nb) e' (w.alloc o) ∧ Evol B ρ D e w ρ' (fun n => D n ∨ n = nb) e' (w.alloc o) := by
  let ρ' : Nat → Nat := fun n => if n = nb then w.heap.size else ρ n
  have h1 : ρ' nb = w.heap.size := by simp [ρ']
  have hag : ∀ n, D n → (D n ∨ n = nb) ∧ ρ' n = ρ n := fun n hn => ⟨.inl hn, by simp only [ρ']; rw [if_neg]; rintro rfl; exact hnb hn⟩
  have hsz : (w.alloc o).heap.size = w.heap.size + 1 := by show (w.heap.push o).size = _; simp
  have hold : ∀ b : Nat, b < w.heap.size → (w.alloc o).heap[b]? = w.heap[b]? := fun b hb => alloc_old w o b hb
  have hlk : ∀ m y, lk e' m = some y → (m = nb ∧ y = x) ∨ (m ≠ nb ∧ lk e m = some y) := by
    intro m y hm
    rw [he] at hm
    by_cases hq : nb = m
    · rw [if_pos hq] at hm; cases hm; exact .inl ⟨hq.symm, rfl⟩
    · rw [if_neg hq] at hm; exact .inr ⟨fun q => hq q.symm, hm⟩
  have hstab : ∀ b, Stab B ρ e w b → Stab B ρ' e' (w.alloc o) b := by
    intro b hb
    refine ⟨hb.1, by rw [hsz]; exact Nat.lt_succ_of_lt hb.2.1, fun m y hm => ?_⟩
    rcases hlk m y hm with ⟨rfl, _⟩ | ⟨_, hm'⟩
    · rw [h1]; exact fun q => Nat.lt_irrefl _ (q ▸ hb.2.1)
    · rw [(hag m (h.en m y hm').1).2]; exact hb.2.2 m y hm'
  have hevo : Evo (Stab B ρ e w) (Stab B ρ' e' (w.alloc o)) w (w.alloc o) :=
    ⟨fun b hb => ⟨hstab b hb, hold b hb.2.1⟩, fun b n hb => hb.congr (hold b hb.lt)⟩
  refine ⟨ρ', h1, ⟨fun m y hm => ?_, fun m m' y y' hm hm' hq => ?_⟩, hevo, hag, fun m y hm => ?_, by rw [hsz]; exact Nat.le_succ _, rfl, rfl, rfl, fun b hb _ => hold b hb⟩
  · rcases hlk m y hm with ⟨rfl, rfl⟩ | ⟨_, hm'⟩
    · exact ⟨.inr rfl, by rw [h1]; exact hx ρ' _ hag hevo⟩
    · have := h.en m y hm'
      refine ⟨.inl this.1, ?_⟩
      rw [(hag m this.1).2]
      exact this.2.mono hevo hag (hold _ (h.block_lt hm'))
  · rcases hlk m y hm with ⟨rfl, _⟩ | ⟨_, hm1⟩ <;> rcases hlk m' y' hm' with ⟨rfl, _⟩ | ⟨_, hm2⟩
    · rfl
    · rw [h1, (hag m' (h.en _ _ hm2).1).2] at hq
      exact absurd (h.block_lt hm2) (by omega)
    · rw [h1, (hag m (h.en _ _ hm1).1).2] at hq
      exact absurd (h.block_lt hm1) (by omega)
    · rw [(hag m (h.en _ _ hm1).1).2, (hag m' (h.en _ _ hm2).1).2] at hq
      exact h.inj m m' y y' hm1 hm2 hq
  · rcases hlk m y hm with ⟨rfl, _⟩ | ⟨_, hm'⟩
    · exact .inr (by rw [h1]; exact Nat.le_refl _)
    · exact .inl ⟨m, y, hm', (hag m (h.en m y hm').1).2⟩

/-- A world with the same blocks. -/
theorem Mem.same {B : Nat → Prop} {ρ : Nat → Nat} {D : Nat → Prop} {e : Ents} {w w' : World} (h : Mem B ρ D e w) (hh : w'.heap = w.heap) (h1 : w'.os = w.os) (h2 : w'.output = w.output) (h3 : w'.tape = w.tape) :
    Mem B ρ D e w' ∧ Evol B ρ D e w ρ D e w' := by
  have hs : ∀ b, Stab B ρ e w b → Stab B ρ e w' b := fun b hb => ⟨hb.1, by rw [hh]; exact hb.2.1, hb.2.2⟩
  have hevo : Evo (Stab B ρ e w) (Stab B ρ e w') w w' := ⟨fun b hb => ⟨hs b hb, by rw [hh]⟩, fun b n hb => hb.congr (by rw [hh])⟩
  exact ⟨⟨fun m x hm => ⟨(h.en m x hm).1, (h.en m x hm).2.mono hevo (fun n hn => ⟨hn, rfl⟩) (by rw [hh])⟩, h.inj⟩,
    hevo, fun n hn => ⟨hn, rfl⟩, fun m x hm => .inl ⟨m, x, hm, rfl⟩, by rw [hh]; exact Nat.le_refl _, h1, h2, h3, fun _ _ _ => by rw [hh]⟩

/-- A new block that nobody writes. -/
theorem Mem.allocStable {B : Nat → Prop} {ρ : Nat → Nat} {D : Nat → Prop} {e : Ents} {w : World} (h : Mem B ρ D e w) (hB : B w.heap.size) (o : Obj) :
    Mem B ρ D e (w.alloc o) ∧ Evol B ρ D e w ρ D e (w.alloc o) ∧ Stab B ρ e (w.alloc o) w.heap.size := by
  have hsz : (w.alloc o).heap.size = w.heap.size + 1 := by show (w.heap.push o).size = _; simp
  have hold : ∀ b : Nat, b < w.heap.size → (w.alloc o).heap[b]? = w.heap[b]? := fun b hb => alloc_old w o b hb
  have hevo : Evo (Stab B ρ e w) (Stab B ρ e (w.alloc o)) w (w.alloc o) :=
    ⟨fun b hb => ⟨⟨hb.1, by rw [hsz]; exact Nat.lt_succ_of_lt hb.2.1, hb.2.2⟩, hold b hb.2.1⟩, fun b n hb => hb.congr (hold b hb.lt)⟩
  refine ⟨⟨fun m x hm => ⟨(h.en m x hm).1, (h.en m x hm).2.mono hevo (fun n hn => ⟨hn, rfl⟩) (hold _ (h.block_lt hm))⟩, h.inj⟩,
    ⟨hevo, fun n hn => ⟨hn, rfl⟩, fun m x hm => .inl ⟨m, x, hm, rfl⟩, by rw [hsz]; exact Nat.le_succ _, rfl, rfl, rfl, fun b hb _ => hold b hb⟩, hB, by rw [hsz]; exact Nat.lt_succ_self _, fun m x hm => ?_⟩
  have := h.block_lt hm
  omega

/-- What an entry's block holds is written anew. -/
theorem Mem.write {B : Nat → Prop} {ρ : Nat → Nat} {D : Nat → Prop} {e e' : Ents} {w w' : World} (h : Mem B ρ D e w) {m : Nat} {x x' : Ent} (hm : lk e m = some x) (he : ∀ n, lk e' n = if m = n then some x' else lk e n)
    (hother : ∀ b : Nat, b ≠ ρ m → w'.heap[b]? = w.heap[b]?) (hsize : w'.heap.size = w.heap.size) (h1 : w'.os = w.os) (h2 : w'.output = w.output) (h3 : w'.tape = w.tape)
    (hc : ∀ n : Nat, Rw w (ρ m) n → Rw w' (ρ m) n)
    (hx : Evo (Stab B ρ e w) (Stab B ρ e' w') w w' → EntR ρ (Stab B ρ e' w') w' D (ρ m) x') :
    Mem B ρ D e' w' ∧ Evol B ρ D e w ρ D e' w' := by
  have hlk : ∀ n y, lk e' n = some y → (n = m ∧ y = x') ∨ (n ≠ m ∧ lk e n = some y) := by
    intro n y hn
    rw [he] at hn
    by_cases hq : m = n
    · rw [if_pos hq] at hn; cases hn; exact .inl ⟨hq.symm, rfl⟩
    · rw [if_neg hq] at hn; exact .inr ⟨fun q => hq q.symm, hn⟩
  have hevo : Evo (Stab B ρ e w) (Stab B ρ e' w') w w' := by
    refine ⟨fun b hb => ⟨⟨hb.1, by rw [hsize]; exact hb.2.1, fun n y hn => ?_⟩, hother b (fun q => hb.2.2 m x hm q.symm)⟩, fun b z hb => ?_⟩
    · rcases hlk n y hn with ⟨rfl, _⟩ | ⟨_, hn'⟩
      · exact hb.2.2 _ x hm
      · exact hb.2.2 n y hn'
    · by_cases hq : b = ρ m
      · subst hq; exact hc z hb
      · exact hb.congr (hother b hq)
  refine ⟨⟨fun n y hn => ?_, fun n n' y y' hn hn' hq => ?_⟩, hevo, fun n hn => ⟨hn, rfl⟩, fun n y hn => ?_, by rw [hsize]; exact Nat.le_refl _, h1, h2, h3, fun b _ hn => hother b (fun q => hn m x hm q.symm)⟩
  · rcases hlk n y hn with ⟨rfl, rfl⟩ | ⟨hne, hn'⟩
    · exact ⟨(h.en _ _ hm).1, hx hevo⟩
    · exact ⟨(h.en n y hn').1, (h.en n y hn').2.mono hevo (fun n hn => ⟨hn, rfl⟩) (hother _ (fun q => hne (h.inj _ _ _ _ hn' hm q)))⟩
  · rcases hlk n y hn with ⟨rfl, _⟩ | ⟨_, hn1⟩ <;> rcases hlk n' y' hn' with ⟨rfl, _⟩ | ⟨_, hn2⟩
    · rfl
    · exact h.inj _ _ _ _ hm hn2 hq
    · exact h.inj _ _ _ _ hn1 hm hq
    · exact h.inj _ _ _ _ hn1 hn2 hq
  · rcases hlk n y hn with ⟨rfl, _⟩ | ⟨_, hn'⟩
    · exact .inl ⟨_, x, hm, rfl⟩
    · exact .inl ⟨n, y, hn', rfl⟩

/-- A row goes on under a new name: in its own block, or in a new one. -/
theorem Mem.move {B : Nat → Prop} {ρ : Nat → Nat} {D : Nat → Prop} {e e' : Ents} {w w' : World} (h : Mem B ρ D e w) {m nb g : Nat} {x x' : Ent} (hm : lk e m = some x) (hnb : ¬ D nb)
    (he : ∀ n, lk e' n = if nb = n then some x' else if m = n then none else lk e n)
    (hother : ∀ b : Nat, b < w.heap.size → b ≠ ρ m → w'.heap[b]? = w.heap[b]?) (hsize : w.heap.size ≤ w'.heap.size) (h1 : w'.os = w.os) (h2 : w'.output = w.output) (h3 : w'.tape = w.tape)
    (hc : ∀ n : Nat, Rw w (ρ m) n → Rw w' (ρ m) n)
    (hg : g = ρ m ∨ w.heap.size ≤ g)
    (hx : ∀ (ρ' : Nat → Nat) (D' : Nat → Prop), (∀ n, D n → D' n ∧ ρ' n = ρ n) → Evo (Stab B ρ e w) (Stab B ρ' e' w') w w' → EntR ρ' (Stab B ρ' e' w') w' D' g x') :
    ∃ ρ', ρ' nb = g ∧ Mem B ρ' (fun n => D n ∨ n = nb) e' w' ∧ Evol B ρ D e w ρ' (fun n => D n ∨ n = nb) e' w' := by
  let ρ' : Nat → Nat := fun n => if n = nb then g else ρ n
  have hρ : ρ' nb = g := by simp [ρ']
  have hag : ∀ n, D n → (D n ∨ n = nb) ∧ ρ' n = ρ n := fun n hn => ⟨.inl hn, by simp only [ρ']; rw [if_neg]; rintro rfl; exact hnb hn⟩
  have hlk : ∀ n y, lk e' n = some y → (n = nb ∧ y = x') ∨ (n ≠ nb ∧ n ≠ m ∧ lk e n = some y) := by
    intro n y hn
    rw [he] at hn
    by_cases hq : nb = n
    · rw [if_pos hq] at hn; cases hn; exact .inl ⟨hq.symm, rfl⟩
    · rw [if_neg hq] at hn
      by_cases hq' : m = n
      · rw [if_pos hq'] at hn; cases hn
      · rw [if_neg hq'] at hn; exact .inr ⟨fun q => hq q.symm, fun q => hq' q.symm, hn⟩
  have hevo : Evo (Stab B ρ e w) (Stab B ρ' e' w') w w' := by
    refine ⟨fun b hb => ⟨⟨hb.1, Nat.lt_of_lt_of_le hb.2.1 hsize, fun n y hn => ?_⟩, hother b hb.2.1 (fun q => hb.2.2 m x hm q.symm)⟩, fun b z hb => ?_⟩
    · rcases hlk n y hn with ⟨rfl, _⟩ | ⟨_, _, hn'⟩
      · rw [hρ]
        rcases hg with rfl | hg
        · exact hb.2.2 m x hm
        · exact fun q => absurd hb.2.1 (by omega)
      · rw [(hag n (h.en n y hn').1).2]; exact hb.2.2 n y hn'
    · by_cases hq : b = ρ m
      · subst hq; exact hc z hb
      · exact hb.congr (hother b hb.lt hq)
  refine ⟨ρ', hρ, ⟨fun n y hn => ?_, fun n n' y y' hn hn' hq => ?_⟩, hevo, hag, fun n y hn => ?_, hsize, h1, h2, h3, fun b hb hn => hother b hb (fun q => hn m x hm q.symm)⟩
  · rcases hlk n y hn with ⟨rfl, rfl⟩ | ⟨_, hne, hn'⟩
    · exact ⟨.inr rfl, by rw [hρ]; exact hx ρ' _ hag hevo⟩
    · have := h.en n y hn'
      refine ⟨.inl this.1, ?_⟩
      rw [(hag n this.1).2]
      exact this.2.mono hevo hag (hother _ (h.block_lt hn') (fun q => hne (h.inj _ _ _ _ hn' hm q)))
  · rcases hlk n y hn with ⟨rfl, _⟩ | ⟨_, hne1, hn1⟩ <;> rcases hlk n' y' hn' with ⟨rfl, _⟩ | ⟨_, hne2, hn2⟩
    · rfl
    · rw [hρ, (hag n' (h.en _ _ hn2).1).2] at hq
      rcases hg with rfl | hg
      · exact absurd (h.inj _ _ _ _ hm hn2 hq).symm hne2
      · exact absurd (h.block_lt hn2) (by omega)
    · rw [hρ, (hag n (h.en _ _ hn1).1).2] at hq
      rcases hg with rfl | hg
      · exact absurd (h.inj _ _ _ _ hn1 hm hq) hne1
      · exact absurd (h.block_lt hn1) (by omega)
    · rw [(hag n (h.en _ _ hn1).1).2, (hag n' (h.en _ _ hn2).1).2] at hq
      exact h.inj n n' y y' hn1 hn2 hq
  · rcases hlk n y hn with ⟨rfl, _⟩ | ⟨_, _, hn'⟩
    · rw [hρ]
      rcases hg with rfl | hg
      · exact .inl ⟨m, x, hm, rfl⟩
      · exact .inr hg
    · exact .inl ⟨n, y, hn', (hag n (h.en n y hn').1).2⟩

end Sx

/- Types, cells of values, and single operations that read. -/
set_option linter.unusedVariables false
set_option linter.unusedSimpArgs false
namespace Sx
open Go

/-- What a type is. -/
inductive Kd where
  | int (k : IntKind) | bool | str
  | slice (e : Nat) | arr (n e : Nat) | strct (fs : List (Nat × Nat)) | ptr (e : Nat) | fn | ifc | map (k v : Nat) | oth
  deriving Inhabited

def Kd.agg : Kd → Bool
  | .arr _ _ => true
  | .strct _ => true
  | _ => false

def kdOf : TypeDesc → Kd
  | .int k => .int k
  | .bool => .bool
  | .string => .str
  | .slice e => .slice e
  | .array n e => .arr n e
  | .struct fs => .strct (fs.toList.map fun f => (f.offset, f.type))
  | .pointer e => .ptr e
  | .func _ _ _ => .fn
  | .interface _ => .ifc
  | .map k v => .map k v
  | _ => .oth

/-- The cells of a value that names no memory. -/
def conc : AV → List Value
  | .int k n => [.int k n]
  | .bool b => [.bool b]
  | .str s => [.string s]
  | .ints k _ xs => xs.map (.int k)
  | .nils => [.slice none 0 0]
  | .nilp => [.pointer none]
  | .nilf => [.nilFunc]
  | .nili => [.nilIface]
  | .nilm => [.map none]
  | .agg cs => concL cs
  | _ => []
where
  concL : List AV → List Value
  | [] => []
  | c :: cs => conc c ++ concL cs

/-- Names no memory, and is well formed. -/
def plain : AV → Bool
  | .int _ _ => true
  | .bool _ => true
  | .str _ => true
  | .ints _ n xs => xs.length == n
  | .nils => true
  | .nilp => true
  | .nilf => true
  | .nili => true
  | .nilm => true
  | .agg cs => plainL cs
  | _ => false
where
  plainL : List AV → Bool
  | [] => true
  | c :: cs => plain c && plainL cs

mutual
theorem RC.conc (ρ : Nat → Nat) (S : Nat → Prop) (w : World) (N : Nat → Prop) : ∀ a : AV, plain a = true → RC ρ S w N a (conc a)
  | .int _ _, _ => .int
  | .bool _, _ => .bool
  | .str _, _ => .str
  | .ints _ _ _, h => .ints (by simpa [plain] using h)
  | .nils, _ => .nils
  | .nilp, _ => .nilp
  | .nilf, _ => .nilf
  | .nili, _ => .nili
  | .nilm, _ => .nilm
  | .agg cs, h => by rw [Sx.conc]; exact RC.concL ρ S w N cs (by rw [plain] at h; exact h)
  | .tup _, h | .ptr _ _ _ _, h | .pel _, h | .sl _ _ _ _, h | .lstI _ _, h | .lstS _, h | .lst _ _, h | .fn _ _, h | .ifc _ _, h | .mp _, h | .unk, h => by simp [plain] at h
theorem RC.concL (ρ : Nat → Nat) (S : Nat → Prop) (w : World) (N : Nat → Prop) : ∀ cs : List AV, plain.plainL cs = true → RC ρ S w N (.agg cs) (conc.concL cs)
  | [], _ => by rw [conc.concL]; exact .nil
  | c :: cs, h => by
    rw [plain.plainL, Bool.and_eq_true] at h
    rw [conc.concL]
    exact .cons (RC.conc ρ S w N c h.1) (RC.concL ρ S w N cs h.2)
end

/-- A row of the table of types. -/
structure TI where
  size : Nat
  bytes : Nat
  kd : Kd
  z : AV
  deriving Inhabited

/-- Structs of the type may be compared, as far as the type's name and its fields' names go. -/
def eqOK (P : Program) (T : Nat) : Bool :=
  match P.underlying T with
  | some (.struct fs) => !(fs.toList.any fun f => f.name == "_") && !P.stoodInHeld T
  | _ => true

structure TyOK (P : Program) (T : Nat) (ti : TI) : Prop where
  inf : (P.info? T).map (fun i => (i.size, i.bytes, i.zero)) = some (ti.size, ti.bytes, some (shape ti.z (conc ti.z)))
  pl : plain ti.z = true
  und : (P.underlying T).map kdOf = some ti.kd
  ag : ti.z.isAgg = ti.kd.agg
  zs : (conc ti.z).length = ti.size
  eqn : eqOK P T = true

def TT (P : Program) (tt : Nat → Option TI) : Prop := ∀ T ti, tt T = some ti → TyOK P T ti

section
variable {P : Program} {T : Nat} {ti : TI}
theorem TyOK.info (h : TyOK P T ti) : ∃ i, P.info? T = some i ∧ i.size = ti.size ∧ i.bytes = ti.bytes ∧ i.zero = some (shape ti.z (conc ti.z)) := by
  have := h.inf
  cases hi : P.info? T with
  | none => rw [hi] at this; cases this
  | some i => rw [hi] at this; simp at this; exact ⟨i, rfl, this.1, this.2.1, this.2.2⟩
theorem TyOK.under (h : TyOK P T ti) : ∃ d, P.underlying T = some d ∧ kdOf d = ti.kd := by
  have := h.und
  cases hi : P.underlying T with
  | none => rw [hi] at this; cases this
  | some d => rw [hi] at this; simp at this; exact ⟨d, rfl, this⟩
theorem TyOK.uslice (h : TyOK P T ti) {e : Nat} (hk : ti.kd = .slice e) : P.underlying T = some (.slice e) := by
  obtain ⟨d, hd, h2⟩ := h.under
  rw [hk] at h2
  cases d <;> simp [kdOf] at h2
  rw [hd, h2]
theorem TyOK.uarr (h : TyOK P T ti) {n e : Nat} (hk : ti.kd = .arr n e) : P.underlying T = some (.array n e) := by
  obtain ⟨d, hd, h2⟩ := h.under
  rw [hk] at h2
  cases d <;> simp [kdOf] at h2
  rw [hd, h2.1, h2.2]
theorem TyOK.ustruct (h : TyOK P T ti) {fs : List (Nat × Nat)} (hk : ti.kd = .strct fs) : ∃ gs : Array Field, P.underlying T = some (.struct gs) ∧ gs.toList.map (fun f => (f.offset, f.type)) = fs := by
  obtain ⟨d, hd, h2⟩ := h.under
  rw [hk] at h2
  cases d <;> simp [kdOf] at h2
  exact ⟨_, hd, h2⟩
theorem TyOK.uint (h : TyOK P T ti) {k : IntKind} (hk : ti.kd = .int k) : P.underlying T = some (.int k) := by
  obtain ⟨d, hd, h2⟩ := h.under
  rw [hk] at h2
  cases d <;> simp [kdOf] at h2
  rw [hd, h2]
theorem TyOK.ustr (h : TyOK P T ti) (hk : ti.kd = .str) : P.underlying T = some .string := by
  obtain ⟨d, hd, h2⟩ := h.under
  rw [hk] at h2
  cases d <;> simp [kdOf] at h2
  rw [hd]
theorem TyOK.ubool (h : TyOK P T ti) (hk : ti.kd = .bool) : P.underlying T = some .bool := by
  obtain ⟨d, hd, h2⟩ := h.under
  rw [hk] at h2
  cases d <;> simp [kdOf] at h2
  rw [hd]
theorem TyOK.run_size (h : TyOK P T ti) (w : World) : (Go.sizeOf T).run P w = .ok ti.size w := by
  obtain ⟨i, hi, h1, _⟩ := h.info
  simp [Go.sizeOf, typeInfo, hi, h1]
theorem TyOK.run_zero (h : TyOK P T ti) (w : World) : (zeroValue T).run P w = .ok (shape ti.z (conc ti.z)) w := by
  obtain ⟨i, hi, _, _, h1⟩ := h.info
  simp [zeroValue, typeInfo, hi, h1]
theorem TyOK.run_agg (h : TyOK P T ti) (w : World) : (isAgg T).run P w = .ok ti.kd.agg w := by
  obtain ⟨d, hd, h2⟩ := h.under
  simp only [isAgg, Sem.run_bind, run_underlying hd, Result.andThen_ok]
  rw [← h2]
  cases d <;> simp [kdOf, Kd.agg]
end

theorem TT.of_list {P : Program} {tbl : List (Nat × TI)} (h : ∀ p ∈ tbl, TyOK P p.1 p.2) : TT P (fun T => lk tbl T) := by
  intro T ti hT
  induction tbl with
  | nil => cases hT
  | cons p tbl ih =>
    obtain ⟨k, x⟩ := p
    simp only [lk] at hT
    split at hT
    · next hq => subst hq; cases hT; exact h _ (List.mem_cons_self ..)
    · exact ih (fun p hp => h p (List.mem_cons_of_mem _ hp)) hT

/-! ### Parts of values -/

def comps : AV → List AV
  | .agg cs => cs
  | a => [a]
def recomp (old : AV) (cs : List AV) : AV :=
  match old, cs with
  | .agg _, cs => .agg cs
  | _, [x] => x
  | _, cs => .agg cs

section
variable {ρ : Nat → Nat} {S : Nat → Prop} {w : World} {N : Nat → Prop}

theorem RC.comps {a : AV} {vs : List Value} (h : RC ρ S w N a vs) : RC ρ S w N (.agg (comps a)) vs := by
  cases a with
  | agg cs => exact h
  | _ => simpa [Sx.comps] using RC.cons h RC.nil
theorem RC.one {a : AV} {vs : List Value} (h : RC ρ S w N (.agg [a]) vs) : RC ρ S w N a vs := by
  cases h with
  | cons h1 h2 => cases h2; simpa using h1
theorem RC.append {cs ds : List AV} {a b : List Value} (h1 : RC ρ S w N (.agg cs) a) (h2 : RC ρ S w N (.agg ds) b) : RC ρ S w N (.agg (cs ++ ds)) (a ++ b) := by
  induction cs generalizing a with
  | nil => cases h1; simpa using h2
  | cons c cs ih =>
    cases h1 with
    | cons h3 h4 => rw [List.append_assoc]; exact .cons h3 (ih h4)

/-- How many cells a part has. -/
def csize : AV → Option Nat
  | .agg _ => none
  | .tup _ => none
  | .ints _ n _ => some n
  | _ => some 1

theorem RC.size {c : AV} {a : List Value} {z : Nat} (h : RC ρ S w N c a) (hz : csize c = some z) : a.length = z := by
  cases h <;> simp [csize] at hz <;> simp_all

def takeI (c : AV) (s : Nat) : Option (List AV) :=
  match c with
  | .ints k _ xs => some [.ints k s (xs.take s)]
  | _ => none
def takeC : List AV → Nat → Option (List AV)
  | [], 0 => some []
  | [], _ + 1 => none
  | c :: cs, s => if s = 0 then some [] else (csize c).bind fun z => if z ≤ s then (takeC cs (s - z)).map (c :: ·) else takeI c s
def dropC : List AV → Nat → Option (List AV)
  | [], 0 => some []
  | [], _ + 1 => none
  | c :: cs, s => if s = 0 then some (c :: cs) else (csize c).bind fun z => if z ≤ s then dropC cs (s - z) else none

theorem RC.take {cs : List AV} : ∀ {s : Nat} {ds : List AV} {a : List Value}, RC ρ S w N (.agg cs) a → takeC cs s = some ds → RC ρ S w N (.agg ds) (a.take s) ∧ s ≤ a.length := by
  induction cs with
  | nil =>
    intro s ds a h ht
    cases s <;> simp [takeC] at ht
    subst ht; cases h; exact ⟨by simpa using RC.nil, by simp⟩
  | cons c cs ih =>
    intro s ds a h ht
    rw [takeC] at ht
    split at ht
    · next h0 => subst h0; cases ht; exact ⟨by simpa using RC.nil, Nat.zero_le _⟩
    · cases hz : csize c with
      | none => rw [hz] at ht; cases ht
      | some z =>
        rw [hz] at ht
        simp only [Option.bind_some] at ht
        split at ht
        · next hle =>
          rw [Option.map_eq_some_iff] at ht
          obtain ⟨es, hes, rfl⟩ := ht
          cases h with
          | cons h1 h2 =>
            have hl := h1.size hz
            obtain ⟨h3, h4⟩ := ih h2 hes
            refine ⟨?_, by simp only [List.length_append]; omega⟩
            rw [List.take_append, List.take_of_length_le (by omega), hl]
            exact .cons h1 h3
        · next hle =>
          unfold takeI at ht
          split at ht
          · next k n xs =>
            cases ht
            cases h with
            | cons h1 h2 =>
              have hl := h1.size hz
              cases h1 with
              | ints hlen =>
                simp only [List.length_map] at hl
                refine ⟨?_, by simp only [List.length_append, List.length_map]; omega⟩
                have h5 : ∀ b : List Value, (xs.map (Value.int k) ++ b).take s = (xs.take s).map (Value.int k) ++ [] := fun b => by
                  rw [List.take_append_of_le_length (by simp only [List.length_map]; omega), List.map_take, List.append_nil]
                rw [h5]
                exact .cons (.ints (by rw [List.length_take]; omega)) .nil
          · cases ht

theorem RC.drop {cs : List AV} : ∀ {s : Nat} {ds : List AV} {a : List Value}, RC ρ S w N (.agg cs) a → dropC cs s = some ds → RC ρ S w N (.agg ds) (a.drop s) ∧ s ≤ a.length := by
  induction cs with
  | nil =>
    intro s ds a h ht
    cases s <;> simp [dropC] at ht
    subst ht; cases h; exact ⟨by simpa using RC.nil, by simp⟩
  | cons c cs ih =>
    intro s ds a h ht
    rw [dropC] at ht
    split at ht
    · next h0 => subst h0; cases ht; exact ⟨by simpa using h, Nat.zero_le _⟩
    · cases hz : csize c with
      | none => rw [hz] at ht; cases ht
      | some z =>
        rw [hz] at ht
        simp only [Option.bind_some] at ht
        split at ht
        · next hle =>
          cases h with
          | cons h1 h2 =>
            have hl := h1.size hz
            obtain ⟨h3, h4⟩ := ih h2 ht
            refine ⟨?_, by simp only [List.length_append]; omega⟩
            rw [List.drop_append, List.drop_eq_nil_of_le (by omega), hl]
            exact h3
        · cases ht

end

/-! ### A result, under a condition -/

abbrev Q (α : Type) := Option (Prop × α)
def ret {α : Type} (a : α) : Q α := some (True, a)
def req {α : Type} (φ : Prop) (x : Q α) : Q α :=
  match x with
  | none => none
  | some (ψ, a) => some (φ ∧ ψ, a)
def opt {α β : Type} (x : Option α) (f : α → Q β) : Q β :=
  match x with
  | none => none
  | some a => f a
def bnd {α β : Type} (x : Q α) (f : α → Q β) : Q β :=
  match x with
  | none => none
  | some (φ, a) => req φ (f a)
/-- The result is a, and the condition holds. -/
def Ok {α : Type} (x : Q α) (a : α) : Prop := ∃ φ : Prop, x = some (φ, a) ∧ φ
/-- Behind the result. -/
def onQ {α : Type} (x : Q α) (K : α → Prop) : Prop :=
  match x with
  | none => False
  | some (φ, a) => φ ∧ K a
theorem onQ_spec {α : Type} {x : Q α} {K : α → Prop} (h : onQ x K) : ∃ a, Ok x a ∧ K a := by
  match x, h with
  | some (φ, a), h => exact ⟨a, ⟨φ, rfl, h.1⟩, h.2⟩
theorem Ok.ret {α : Type} {a b : α} (h : Ok (ret a) b) : a = b := by
  obtain ⟨φ, h, _⟩ := h
  simp [Sx.ret] at h
  exact h.2
theorem Ok.none {α : Type} {b : α} (h : Ok (none : Q α) b) : False := by
  obtain ⟨φ, h, _⟩ := h
  cases h
theorem Ok.req {α : Type} {φ : Prop} {x : Q α} {b : α} (h : Ok (req φ x) b) : φ ∧ Ok x b := by
  obtain ⟨ψ, h, hψ⟩ := h
  match x, h with
  | some (χ, a), h => simp only [Sx.req, Option.some.injEq, Prod.mk.injEq] at h; obtain ⟨rfl, rfl⟩ := h; exact ⟨hψ.1, χ, rfl, hψ.2⟩
theorem Ok.opt {α β : Type} {x : Option α} {f : α → Q β} {b : β} (h : Ok (opt x f) b) : ∃ a, x = some a ∧ Ok (f a) b := by
  cases x with
  | none => exact h.none.elim
  | some a => exact ⟨a, rfl, h⟩
theorem Ok.bnd {α β : Type} {x : Q α} {f : α → Q β} {b : β} (h : Ok (bnd x f) b) : ∃ a, Ok x a ∧ Ok (f a) b := by
  match x, h with
  | .none, h => exact (Ok.none (b := b) h).elim
  | .some (φ, a), h => obtain ⟨h1, h2⟩ := Ok.req h; exact ⟨a, ⟨φ, rfl, h1⟩, h2⟩

section
variable {ρ : Nat → Nat} {S : Nat → Prop} {w : World} {N : Nat → Prop}

/-- The single part at o + i: o a place, i an index among numbers. -/
def ldS : List AV → Nat → Nat → Q AV
  | [], _, _ => none
  | c :: cs, o, i =>
    match c with
    | .agg _ => none
    | .tup _ => none
    | .ints k n xs => if o < n then req (o + i < n) (ret (.int k (xs.getD (o + i) 0))) else ldS cs (o - n) i
    | c => if o = 0 then req (i = 0) (ret c) else ldS cs (o - 1) i

theorem RC.ldS {cs : List AV} : ∀ {o i : Nat} {v : AV} {a : List Value}, RC ρ S w N (.agg cs) a → Ok (ldS cs o i) v → ∃ u, v.isAgg = false ∧ a[o + i]? = some u ∧ RC ρ S w N v [u] := by
  induction cs with
  | nil => intro o i v a _ h; exact h.none.elim
  | cons c cs ih =>
    intro o i v a h hl
    cases h with
    | cons h1 h2 =>
      rename_i a b
      have one : ∀ u, a = [u] → c.isAgg = false → Ok (if o = 0 then req (i = 0) (ret c) else Sx.ldS cs (o - 1) i) v → ∃ u, v.isAgg = false ∧ (a ++ b)[o + i]? = some u ∧ RC ρ S w N v [u] := by
        intro u hu hag hl
        subst hu
        split at hl
        · next h0 => obtain ⟨rfl, hk⟩ := hl.req; have := hk.ret; subst this; subst h0; exact ⟨u, hag, by simp, h1⟩
        · next h0 =>
          obtain ⟨u', hv, hg, hr⟩ := ih h2 hl
          refine ⟨u', hv, ?_, hr⟩
          rw [List.getElem?_append_right (by simp; omega)]
          simpa [show o + i - 1 = o - 1 + i from by omega] using hg
      cases h1 with
      | ints hn =>
        rename_i k n xs
        simp only [Sx.ldS] at hl
        split at hl
        · obtain ⟨hlt, hk⟩ := hl.req
          have := hk.ret
          subst this
          refine ⟨.int k (xs.getD (o + i) 0), rfl, ?_, .int⟩
          rw [List.getElem?_append_left (by simp; omega)]
          simp [List.getElem?_eq_getElem (show o + i < xs.length by omega)]
        · next h0 =>
          obtain ⟨u', hv, hg, hr⟩ := ih h2 hl
          refine ⟨u', hv, ?_, hr⟩
          rw [List.getElem?_append_right (by simp; omega)]
          simpa [hn, show o + i - n = o - n + i from by omega] using hg
      | nil => exact hl.none.elim
      | cons => exact hl.none.elim
      | _ => exact one _ rfl rfl hl

/-- Another single part at o + i. -/
def stS : List AV → Nat → Nat → AV → Q (List AV)
  | [], _, _, _ => none
  | c :: cs, o, i, v =>
    match c with
    | .agg _ => none
    | .tup _ => none
    | .ints k n xs => if o < n then (match v with | .int k' x => req (o + i < n ∧ k' = k) (ret (.ints k n (xs.set (o + i) x) :: cs)) | _ => none) else bnd (stS cs (o - n) i v) fun ds => ret (.ints k n xs :: ds)
    | c => if o = 0 then req (i = 0) (ret (v :: cs)) else bnd (stS cs (o - 1) i v) fun ds => ret (c :: ds)

theorem RC.stS {cs : List AV} {v : AV} {u : Value} (hv : RC ρ S w N v [u]) : ∀ {o i : Nat} {ds : List AV} {a : List Value}, RC ρ S w N (.agg cs) a → Ok (stS cs o i v) ds →
    o + i < a.length ∧ RC ρ S w N (.agg ds) (a.set (o + i) u) := by
  induction cs with
  | nil => intro o i ds a _ h; exact h.none.elim
  | cons c cs ih =>
    intro o i ds a h hl
    cases h with
    | cons h1 h2 =>
      rename_i a b
      have one : ∀ u', a = [u'] → Ok (if o = 0 then req (i = 0) (ret (v :: cs)) else bnd (Sx.stS cs (o - 1) i v) fun ds => ret (c :: ds)) ds → o + i < (a ++ b).length ∧ RC ρ S w N (.agg ds) ((a ++ b).set (o + i) u) := by
        intro u' hu hl
        subst hu
        split at hl
        · next h0 => obtain ⟨rfl, hk⟩ := hl.req; have := hk.ret; subst this; subst h0; exact ⟨by simp, by simpa using RC.cons hv h2⟩
        · next h0 =>
          obtain ⟨es, he, hl⟩ := hl.bnd
          have := hl.ret; subst this
          obtain ⟨hlt, hr⟩ := ih h2 he
          refine ⟨by simp; omega, ?_⟩
          rw [List.set_append_right _ _ (by simp; omega)]
          exact .cons h1 (by simpa [show o + i - 1 = o - 1 + i from by omega] using hr)
      cases h1 with
      | ints hn =>
        rename_i k n xs
        simp only [Sx.stS] at hl
        split at hl
        · cases v <;> first | exact hl.none.elim | skip
          obtain ⟨⟨hlt, rfl⟩, hk⟩ := hl.req
          have := hk.ret; subst this
          obtain rfl : u = Value.int _ _ := by cases hv; rfl
          refine ⟨by simp; omega, ?_⟩
          rw [List.set_append_left _ _ (by simp; omega), ← List.map_set]
          exact .cons (.ints (by simp [hn])) h2
        · next h0 =>
          obtain ⟨es, he, hl⟩ := hl.bnd
          have := hl.ret; subst this
          obtain ⟨hlt, hr⟩ := ih h2 he
          refine ⟨by simp; omega, ?_⟩
          rw [List.set_append_right _ _ (by simp; omega)]
          exact .cons (.ints hn) (by simpa [hn, show o + i - n = o - n + i from by omega] using hr)
      | nil => exact hl.none.elim
      | cons => exact hl.none.elim
      | _ => exact one _ rfl hl
end

def szL : List AV → Option Nat
  | [] => some 0
  | c :: cs => (csize c).bind fun z => (szL cs).map (z + ·)
theorem RC.szL {ρ : Nat → Nat} {S : Nat → Prop} {w : World} {N : Nat → Prop} {cs : List AV} : ∀ {a : List Value} {z : Nat}, RC ρ S w N (.agg cs) a → szL cs = some z → a.length = z := by
  induction cs with
  | nil => intro a z h hz; cases h; simp [Sx.szL] at hz; simp [hz]
  | cons c cs ih =>
    intro a z h hz
    simp only [Sx.szL, Option.bind_eq_some_iff, Option.map_eq_some_iff] at hz
    obtain ⟨z1, h1, z2, h2, rfl⟩ := hz
    cases h with
    | cons h3 h4 => rw [List.length_append, h3.size h1, ih h4 h2]

end Sx

/- One operation, symbolically: the frame, and operations on memory. -/
set_option linter.unusedVariables false
set_option linter.unusedSimpArgs false
namespace Sx
open Go

def er (e : Ents) (n : Nat) : Ents :=
  match e with
  | [] => []
  | (k, x) :: l => if k = n then er l n else (k, x) :: er l n
def up (e : Ents) (n : Nat) : Option Ent → Ents
  | some x => (n, x) :: er e n
  | none => er e n
abbrev Del := List (Nat × Option Ent)
def ap : Del → Ents → Ents
  | [], e => e
  | (n, x) :: d, e => ap d (up e n x)

theorem lk_er (e : Ents) (n m : Nat) : lk (er e n) m = if n = m then none else lk e m := by
  induction e with
  | nil => simp [er, lk]
  | cons p e ih =>
    obtain ⟨k, x⟩ := p
    simp only [er]
    split
    · next h => subst h; rw [ih]; simp only [lk]; split <;> simp_all
    · next h =>
      simp only [lk]
      split
      · next h2 => subst h2; rw [if_neg (fun q => h q.symm)]
      · next h2 => rw [ih]
theorem lk_up (e : Ents) (n : Nat) (x : Option Ent) (m : Nat) : lk (up e n x) m = if n = m then x else lk e m := by
  cases x with
  | none => exact lk_er e n m
  | some x => simp only [up, lk]; split <;> simp_all [lk_er]

abbrev Tms := List (Nat × AV)

structure Good (B : Nat → Prop) (G : Nat → Option AV) (ρ : Nat → Nat) (D : Nat → Prop) (t : Tms) (e : Ents) (a : Act) (w : World) : Prop where
  mem : Mem B ρ D e w
  tm : ∀ i x, lk t i = some x → ∃ v, a.tmps[i]? = some v ∧ RV ρ (Stab B ρ e w) w D x v
  big : ∀ b, w.heap.size ≤ b → B b
  gl : ∀ g x, G g = some x → RC ρ (Stab B ρ e w) w NoNm (.pel x) [.pointer (some ⟨g, 0, none⟩)]

def Le {α : Type} (t t' : List (Nat × α)) : Prop := ∀ i x, lk t i = some x → lk t' i = some x

def ofV : Value → Option AV
  | .int k n => some (.int k n)
  | .bool b => some (.bool b)
  | .string s => some (.str s)
  | .slice none 0 0 => some .nils
  | .pointer none => some .nilp
  | .nilFunc => some .nilf
  | .nilIface => some .nili
  | .map none => some .nilm
  | _ => none

def ev (G : Nat → Option AV) (t : Tms) : Operand → Option AV
  | .tmp i => lk t i
  | .const v => ofV v
  | .global g => (G g).map .pel
  | .func f => some (.fn (.func f) [])

theorem shape_one {a : AV} {v : Value} (h : a.isAgg = false) : shape a [v] = v := by simp [shape, h]

theorem ofV_sound {ρ : Nat → Nat} {S : Nat → Prop} {w : World} {N : Nat → Prop} {v : Value} {x : AV} (h : ofV v = some x) : RV ρ S w N x v := by
  unfold ofV at h
  split at h <;> first | (cases h; done) | skip
  all_goals cases h
  · exact .one (.int)
  · exact .one (.bool)
  · exact .one (.str)
  · exact .one (.nils)
  · exact .one (.nilp)
  · exact .one (.nilf)
  · exact .one (.nili)
  · exact .one (.nilm)

theorem ev_sound {B : Nat → Prop} {G : Nat → Option AV} {ρ : Nat → Nat} {D : Nat → Prop} {t t' : Tms} {e : Ents} {a : Act} {w : World} (hg : Good B G ρ D t' e a w) (hl : Le t t') {x : Operand} {v : AV} (h : ev G t x = some v) :
    RV ρ (Stab B ρ e w) w D v (a.eval x) := by
  cases x with
  | tmp i =>
    obtain ⟨u, h1, h2⟩ := hg.tm i v (hl i v h)
    simp only [Act.eval, Array.getD_eq_getD_getElem?, h1, Option.getD_some]
    exact h2
  | const u => exact ofV_sound h
  | «global» g =>
    simp only [ev, Option.map_eq_some_iff] at h
    obtain ⟨y, hy, rfl⟩ := h
    exact .one (cs := [_]) ((hg.gl g y hy).mono (Evo.refl w) D (fun _ h => h.elim))
  | func f => cases h; exact .one (cs := [_]) (RC.fn (cap := []) (fun _ => []) (fun i x hi => by simp at hi) (fun l h => by cases h))

/-- What holds behind an operation. -/
def Post (B : Nat → Prop) (ρ : Nat → Nat) (D : Nat → Prop) (e : Ents) (w : World) (nb : Nat) (v : AV) (d : Del) (x : Value) (w' : World) : Prop :=
  ∃ ρ' D', (∀ n, D' n → D n ∨ (nb ≤ n ∧ n < nb + 16)) ∧ RV ρ' (Stab B ρ' (ap d e) w') w' D' v x ∧ Mem B ρ' D' (ap d e) w' ∧ Evol B ρ D e w ρ' D' (ap d e) w'

/-- The operation runs to its end. -/
inductive Runs (P : Program) (o : Oper) (a : Act) (w : World) (post : Value → World → Prop) : Prop
  | value {x w'} (h : (execOp a.eval o).run P w = .ok (.value x) w') (hp : post x w')
  | skip {w'} (h : (execOp a.eval o).run P w = .ok .skip w') (hp : post undef w')
  | enter {f args w'} (h : (execOp a.eval o).run P w = .ok (.enter f args) w') (hp : Calls P f args w' fun e w'' => ∃ x, e = .returned x ∧ post x w'')

theorem Runs.wp {P : Program} {o : Oper} {a : Act} {w : World} {post : Value → World → Prop} {Q : Exit → Act → World → Prop} {K : Act → World → Prop} (h : Runs P o a w post)
    (hk : ∀ x w', post x w' → K (a.put o.dst x) w') : o.wp P a w K Q := by
  cases h with
  | value h hp => unfold Oper.wp; rw [h]; exact hk _ _ hp
  | skip h hp => unfold Oper.wp; rw [h]; exact hk _ _ hp
  | enter h hp =>
    unfold Oper.wp; rw [h]
    refine hp.mono ?_
    rintro e w'' ⟨x, rfl, hx⟩
    exact hk _ _ hx

/-- The fence of a function's own code, or of a round of a range over a function. -/
def fr (ro : Option Nat) : Fence := { Fence.wide with round := ro }
theorem fr_fn {ro : Option Nat} (f : FuncId) : (fr ro).fn f := trivial
theorem fr_calls {ro : Option Nat} {n : Nat} {P : Program} {f : FuncId} {args : Array Value} {w : World} {R : Ending → World → Prop} (h : Calls P f args w R) : CallsIn (fr ro) n P f args w R :=
  (callsIn_wide (n := n)).2 h
theorem Runs.wpI {ro : Option Nat} {n : Nat} {P : Program} {o : Oper} {a : Act} {w : World} {post : Value → World → Prop} {Q : Exit → Act → World → Prop} {K : Act → World → Prop} (h : Runs P o a w post)
    (hnd : ∀ c, o.op ≠ .defer c) (hk : ∀ x w', post x w' → K (a.put o.dst x) w') : o.wpIn (fr ro) n P a w K Q := by
  refine ⟨fun f _ => fr_fn f, ?_⟩
  rw [Oper.semAt_eq _ _ _ hnd]
  cases h with
  | value h hp => rw [h]; exact hk _ _ hp
  | skip h hp => rw [h]; exact hk _ _ hp
  | enter h hp =>
    rw [h]
    refine ⟨fun hq => (by cases hq), fr_calls (hp.mono ?_)⟩
    rintro e w'' ⟨x, rfl, hx⟩
    exact hk _ _ hx

def OpSound (P : Program) (G : Nat → Option AV) (t : Tms) (e : Ents) (nb : Nat) (o : Oper) (v : AV) (d : Del) : Prop :=
  ∀ B ρ D t' e' a w, Le t t' → Le e e' → Good B G ρ D t' e' a w → (∀ n, nb ≤ n → n < nb + 16 → ¬ D n) → Runs P o a w (Post B ρ D e' w nb v d)

theorem Post.pure {B : Nat → Prop} {ρ : Nat → Nat} {D : Nat → Prop} {e : Ents} {w : World} {nb : Nat} {v : AV} {x : Value} (hm : Mem B ρ D e w) (h : RV ρ (Stab B ρ e w) w D v x) : Post B ρ D e w nb v [] x w :=
  ⟨ρ, D, fun _ h => .inl h, h, hm, Evol.refl w⟩

section
variable {P : Program} {G : Nat → Option AV} {t : Tms} {e : Ents} {nb : Nat} {dst : Option Tmp} {ty : TypeId} {pos : String} {after : Array Edge} {gd : Option (Nat × Bool)}

theorem sound_move {x : Operand} {v : AV} (h : ev G t x = some v) : OpSound P G t e nb ⟨dst, .move x, ty, pos, after, gd⟩ v [] :=
  fun _ _ _ _ _ _ _ ht _ hg _ => .value (by simp [execOp]) (Post.pure hg.mem (ev_sound hg ht h))
theorem sound_assign {x : Operand} {v : AV} (h : ev G t x = some v) : OpSound P G t e nb ⟨dst, .assign x, ty, pos, after, gd⟩ v [] :=
  fun _ _ _ _ _ _ _ ht _ hg _ => .value (by simp [execOp]) (Post.pure hg.mem (ev_sound hg ht h))

theorem RV.tup_inv {ρ : Nat → Nat} {S : Nat → Prop} {w : World} {N : Nat → Prop} {l : List AV} {v : Value} (h : RV ρ S w N (.tup l) v) : ∃ vs : List Value, v = .tuple vs.toArray ∧ vs.length = l.length ∧ ∀ (i : Nat) x, l[i]? = some x → ∃ cs, RC ρ S w N x cs ∧ vs[i]? = some (shape x cs) := by
  cases h with
  | one h => cases h
  | tup hl h => exact ⟨_, rfl, hl, h⟩
theorem RV.inv {ρ : Nat → Nat} {S : Nat → Prop} {w : World} {N : Nat → Prop} {a : AV} {v : Value} (h : RV ρ S w N a v) (ha : ∀ l, a ≠ .tup l) : ∃ cs, v = shape a cs ∧ RC ρ S w N a cs := by
  cases h with
  | one h => exact ⟨_, rfl, h⟩
  | tup => exact absurd rfl (ha _)

theorem sound_extract {x : Operand} {l : List AV} {i : Nat} {v : AV} (h : ev G t x = some (.tup l)) (hi : l[i]? = some v) : OpSound P G t e nb ⟨dst, .extract x i, ty, pos, after, gd⟩ v [] := by
  intro B ρ D t' e' a w ht _ hg _
  obtain ⟨vs, hv, hl, hr⟩ := (ev_sound hg ht h).tup_inv
  obtain ⟨cs, h1, h2⟩ := hr i v hi
  exact .value (x := shape v cs) (w' := w) (by simp [execOp, Instr.extract, hv, h2]) (Post.pure hg.mem (.one h1))

/-- The cells of a value are those that it was made of. -/
theorem RC.cells {ρ : Nat → Nat} {S : Nat → Prop} {w : World} {N : Nat → Prop} {a : AV} {cs : List Value} (h : RC ρ S w N a cs) : (shape a cs).cells = cs.toArray := by
  cases h <;> first | rfl | assumption
theorem RC.oneCell {ρ : Nat → Nat} {S : Nat → Prop} {w : World} {N : Nat → Prop} {a : AV} {cs : List Value} (h : RC ρ S w N a cs) : ∀ v ∈ cs, v.oneCell' = true := by
  induction h with
  | ints h => intro v hv; rw [List.mem_map] at hv; obtain ⟨x, _, rfl⟩ := hv; rfl
  | nil => intro v hv; cases hv
  | cons _ _ ih1 ih2 => intro v hv; rcases List.mem_append.1 hv with h | h <;> first | exact ih1 v h | exact ih2 v h
  | unk h h2 => intro v hv; rw [List.mem_singleton] at hv; subst hv; exact h
  | _ => intro v hv; rw [List.mem_singleton] at hv; subst hv; rfl

theorem Post.alloc {B : Nat → Prop} {ρ : Nat → Nat} {D : Nat → Prop} {e : Ents} {w : World} {v : AV} {cs : List Value} {T : TypeId} (hm : Mem B ρ D e w) (hD : ∀ n, nb ≤ n → n < nb + 16 → ¬ D n)
    (h : ∀ (ρ' : Nat → Nat) (S' : Nat → Prop) (D' : Nat → Prop) (w' : World), Evo (Stab B ρ e w) S' w w' → (∀ n, D n → D' n ∧ ρ' n = ρ n) → RC ρ' S' w' D' v cs) :
    Post B ρ D e w nb (.ptr nb 0 0 1) [(nb, some (.obj T v))] (.pointer (some ⟨w.heap.size, 0, none⟩)) (w.alloc (.cells cs.toArray T)) := by
  obtain ⟨ρ', h1, h2, h3⟩ := hm.alloc nb (hD nb (Nat.le_refl _) (by omega)) (.cells cs.toArray T) (.obj T v) (e' := ap [(nb, some (.obj T v))] e) (fun m => lk_up e nb (some (.obj T v)) m)
    (fun ρ' D' hag hevo => .obj (h ρ' _ D' _ hevo hag) (Cel.new w _ _))
  refine ⟨ρ', _, fun n hn => hn.imp id (fun q => by subst q; omega), ?_, h2, h3⟩
  have := RV.one (RC.ptr (ρ := ρ') (S := Stab B ρ' (ap [(nb, some (.obj T v))] e) (w.alloc (.cells cs.toArray T))) (w := w.alloc (.cells cs.toArray T)) (N := fun n => D n ∨ n = nb) (nm := nb) (o := 0) (i := 0) (sz := 1) (.inr rfl))
  rw [h1] at this
  exact this

theorem run_newVar_eq (w : World) (T : TypeId) (v : Value) : (newVar T v).run P w = .ok ⟨w.heap.size, 0, none⟩ (w.alloc (.cells v.cells T)) := by
  rfl

theorem sound_alloc {T : Nat} {ti : TI} (hT : TyOK P T ti) : OpSound P G t e nb ⟨dst, .alloc T, ty, pos, after, gd⟩ (.ptr nb 0 0 1) [(nb, some (.obj T ti.z))] := by
  intro B ρ D t' e' a w _ _ hg hD
  have hc := (RC.conc ρ (Stab B ρ e' w) w D ti.z hT.pl).cells
  refine .value (x := .pointer (some ⟨w.heap.size, 0, none⟩)) (w' := w.alloc (.cells (conc ti.z).toArray T)) ?_ (Post.alloc hg.mem hD (fun ρ' S' D' w' _ _ => RC.conc _ _ _ _ _ hT.pl))
  simp only [execOp, Instr.alloc, Sem.run_bind, hT.run_zero, Result.andThen_ok, run_newVar_eq, Sem.run_pure, hc]

theorem sound_box {T : Nat} {x : Operand} {v : AV} (h : ev G t x = some v) (hv : ∀ l, v ≠ .tup l) : OpSound P G t e nb ⟨dst, .box T x, ty, pos, after, gd⟩ (.ptr nb 0 0 1) [(nb, some (.obj T v))] := by
  intro B ρ D t' e' a w ht _ hg hD
  obtain ⟨cs, hx, hr⟩ := (ev_sound hg ht h).inv hv
  refine .value (x := .pointer (some ⟨w.heap.size, 0, none⟩)) (w' := w.alloc (.cells cs.toArray T)) ?_ (Post.alloc hg.mem hD (fun ρ' S' D' w' he hag => hr.mono he D' hag))
  simp only [execOp, Instr.box, Sem.run_bind, Result.andThen_ok, run_newVar_eq, Sem.run_pure, hx, hr.cells]

/-! ### Loads -/

/-- What stands at a pointer, read at a type. -/
def ldC (ti : TI) (cs : List AV) (o i : Nat) : Q AV :=
  if ti.kd.agg = true then req (i = 0) (opt (dropC cs o) fun ds => opt (takeC ds ti.size) fun es => ret (.agg es)) else ldS cs o i
def ldE (ti : TI) (o i sz : Nat) : Ent → Q AV
  | .obj _ v => req (sz = 1) (ldC ti (comps v) o i)
  | .vec _ (.ints k xs) => if ti.kd.agg = true then req (sz = 1 ∧ o = 0 ∧ i + ti.size ≤ xs.length) (ret (.agg [.ints k ti.size ((xs.drop i).take ti.size)]))
    else req (sz = 1 ∧ o = 0 ∧ ti.kd.agg = false ∧ i < xs.length) (ret (.int k (xs.getD i 0)))
  | .vec _ (.strs ss) => req (sz = 1 ∧ o = 0 ∧ ti.kd.agg = false ∧ i < ss.length) (ret (.str (ss.getD i .empty)))
  | .vec _ (.avs s l) => req (sz = s ∧ i < l.length) (ldC ti (comps (l.getD i default)) o 0)
  | .mset _ => none
def ldP (e : Ents) (ti : TI) (p : AV) : Q AV :=
  match p with
  | .ptr nm o i sz => opt (lk e nm) (ldE ti o i sz)
  | .pel v => ldC ti (comps v) 0 0
  | _ => none

theorem run_loadVar_cells {T : Nat} {ti : TI} (hT : TyOK P T ti) (w : World) (b o : Nat) (cs : List Value) (hs : cs.length = ti.size) (hag : ti.kd.agg = true) (hc : ∀ j u, cs[j]? = some u → w.cell? ⟨b, o + j, none⟩ = some u) :
    (loadVar T ⟨b, o, none⟩).run P w = .ok (.agg cs.toArray) w := by
  have hl := run_loadCells_list (P := P) w ⟨b, o, none⟩ cs (fun j v hv => by
    have : (⟨b, o, none⟩ : Addr).add j = ⟨b, o + j, none⟩ := by unfold Addr.add; split <;> simp_all
    rw [this]; exact hc j v hv)
  simp only [loadVar, Sem.run_bind, hT.run_agg, Result.andThen_ok, hag, if_true, hT.run_size, ← hs, hl, Sem.run_pure]
theorem run_loadVar_cell {T : Nat} {ti : TI} (hT : TyOK P T ti) (w : World) (b o : Nat) (u : Value) (hag : ti.kd.agg = false) (hc : w.cell? ⟨b, o, none⟩ = some u) :
    (loadVar T ⟨b, o, none⟩).run P w = .ok u w := by
  simp [loadVar, hT.run_agg, hag, hc]

/-- Cells at a place, read at a type. -/
theorem ldC_run {T : Nat} {ti : TI} (hT : TyOK P T ti) {ρ : Nat → Nat} {S : Nat → Prop} {w : World} {N : Nat → Prop} {cs : List AV} {vals : List Value} {b base o i : Nat} {v : AV}
    (h : RC ρ S w N (.agg cs) vals) (hc : ∀ j u, vals[j]? = some u → w.cell? ⟨b, base + j, none⟩ = some u) (hl : Ok (ldC ti cs o i) v) :
    ∃ x, RV ρ S w N v x ∧ (loadVar T ⟨b, base + (o + i), none⟩).run P w = .ok x w := by
  unfold ldC at hl
  split at hl
  · next hag =>
    obtain ⟨h0, hl1⟩ := hl.req
    subst h0
    obtain ⟨ds, hd, hl2⟩ := hl1.opt
    obtain ⟨es, he, hk⟩ := hl2.opt
    have := hk.ret; subst this
    obtain ⟨h1, hle⟩ := h.drop hd
    obtain ⟨h2, hle2⟩ := h1.take he
    refine ⟨_, .one h2, ?_⟩
    have := run_loadVar_cells hT w b (base + o) ((vals.drop o).take ti.size) (by rw [List.length_take]; omega) hag (fun j u hj => by
      rw [List.getElem?_take] at hj
      split at hj
      · rw [List.getElem?_drop] at hj
        have := hc (o + j) u hj
        rwa [← Nat.add_assoc] at this
      · cases hj)
    simpa [shape, AV.isAgg] using this
  · next hag =>
    obtain ⟨u, hv, hg, hr⟩ := h.ldS hl
    refine ⟨u, ?_, ?_⟩
    · have := RV.one hr
      rwa [shape_one hv] at this
    · exact run_loadVar_cell hT w b _ u (by simpa using hag) (hc _ _ hg)

theorem cell_obj {w : World} {b : Nat} {cs : List Value} {T : TypeId} (hb : Cel w b cs.toArray T) (j : Nat) (u : Value) (h : cs[j]? = some u) : w.cell? ⟨b, 0 + j, none⟩ = some u := by
  rw [Nat.zero_add, hb.cell]; simpa using h
theorem cell_vec {w : World} {b : Nat} {c : Array Value} {cs : List Value} {T : TypeId} (hb : Cel w b c T) (hc : c.toList.take cs.length = cs) (j : Nat) (u : Value) (h : cs[j]? = some u) : w.cell? ⟨b, j, none⟩ = some u := by
  rw [hb.cell]
  have h2 : (c.toList.take cs.length)[j]? = some u := by rw [hc]; exact h
  rw [List.getElem?_take] at h2
  split at h2
  · simpa using h2
  · cases h2

theorem RowC.avs_get {ρ : Nat → Nat} {S : Nat → Prop} {w : World} {N : Nat → Prop} {sz : Nat} {l : List AV} : ∀ {cs : List Value}, RowC ρ S w N (.avs sz l) cs → ∀ i (x : AV), l[i]? = some x →
    ∃ a, RC ρ S w N x a ∧ a.length = sz ∧ ∀ j u, a[j]? = some u → cs[i * sz + j]? = some u := by
  induction l with
  | nil => intro cs _ i x hx; simp at hx
  | cons y l ih =>
    intro cs h i x hx
    cases h with
    | cons h1 hz h2 =>
      rename_i a0 b0
      cases i with
      | zero =>
        simp at hx; subst hx
        refine ⟨_, h1, hz, fun j u hj => ?_⟩
        rw [List.getElem?_append_left (by have := (List.getElem?_eq_some_iff.1 hj).1; omega)]
        simpa using hj
      | succ i =>
        obtain ⟨a, ha, hl, hc⟩ := ih h2 i x (by simpa using hx)
        refine ⟨a, ha, hl, fun j u hj => ?_⟩
        rw [List.getElem?_append_right (by rw [hz, Nat.add_mul]; omega)]
        have : (i + 1) * sz + j - a0.length = i * sz + j := by rw [hz, Nat.add_mul]; omega
        rw [this]
        exact hc j u hj

theorem ldP_run {B : Nat → Prop} {G : Nat → Option AV} {ρ : Nat → Nat} {D : Nat → Prop} {t' : Tms} {e e' : Ents} {a : Act} {w : World} (hg : Good B G ρ D t' e' a w) (hle : Le e e') {T : Nat} {ti : TI} {p v : AV} {pv : Value} (hT : TyOK P T ti)
    (hx : RV ρ (Stab B ρ e' w) w D p pv) (hl : Ok (ldP e ti p) v) : ∃ b o y, pv = .pointer (some ⟨b, o, none⟩) ∧ RV ρ (Stab B ρ e' w) w D v y ∧ (loadVar T ⟨b, o, none⟩).run P w = .ok y w := by
  have fin : ∀ (b o : Nat) (y : Value), pv = .pointer (some ⟨b, o, none⟩) → RV ρ (Stab B ρ e' w) w D v y → (loadVar T ⟨b, o, none⟩).run P w = .ok y w →
      ∃ b o y, pv = .pointer (some ⟨b, o, none⟩) ∧ RV ρ (Stab B ρ e' w) w D v y ∧ (loadVar T ⟨b, o, none⟩).run P w = .ok y w := fun b o y h1 h2 h3 => ⟨b, o, y, h1, h2, h3⟩
  cases p <;> simp only [ldP] at hl <;> first | exact hl.none.elim | skip
  · rename_i nm o i sz
    obtain ⟨y, hy, hl1⟩ := hl.opt
    clear hl
    obtain ⟨cs, hv, hr⟩ := hx.inv (by simp)
    cases hr with
    | ptr _ =>
      have hy' := (hg.mem.en nm y (hle _ _ hy)).2
      clear hy
      cases hy' with
      | mset _ _ => exact hl1.none.elim
      | obj hr hb =>
        obtain ⟨h1, hl2⟩ := hl1.req
        subst h1
        obtain ⟨u, h2, h3⟩ := ldC_run hT hr.comps (cell_obj hb) hl2
        refine fin _ _ u hv h2 ?_
        simpa using h3
      | vec hr hb hc =>
        cases hr with
        | ints =>
          rename_i kk xs
          simp only [ldE] at hl1
          by_cases hagg : ti.kd.agg = true
          · rw [if_pos hagg] at hl1
            obtain ⟨⟨h1, h2, hle⟩, h3⟩ := hl1.req
            have h3 := h3.ret
            subst h1 h2 h3
            have hlen : ((xs.drop i).take ti.size).length = ti.size := by simp; omega
            refine fin _ _ (.agg ((((xs.drop i).take ti.size).map (Value.int kk)) ++ []).toArray) hv (.one (cs := (((xs.drop i).take ti.size).map (Value.int kk)) ++ []) (.cons (.ints hlen) .nil)) ?_
            refine run_loadVar_cells hT w _ _ _ (by simp [hlen]; omega) hagg (fun j u hj => ?_)
            rw [Nat.add_assoc]
            refine cell_vec hb hc _ _ ?_ |> fun h => by simpa using h
            simp only [List.append_nil, List.getElem?_map] at hj ⊢
            rw [List.getElem?_take] at hj
            split at hj
            · rw [List.getElem?_drop] at hj; simpa using hj
            · cases hj
          rw [if_neg hagg] at hl1
          obtain ⟨⟨h1, h2, hag, hlt⟩, h3⟩ := hl1.req
          have h3 := h3.ret
          subst h1 h2 h3
          refine fin _ _ (.int _ _) hv (.one (cs := [_]) .int) (run_loadVar_cell hT w _ _ _ hag (cell_vec hb hc _ _ ?_))
          simp [List.getElem?_eq_getElem hlt]
        | strs =>
          simp only [ldE] at hl1
          obtain ⟨⟨h1, h2, hag, hlt⟩, h3⟩ := hl1.req
          have h3 := h3.ret
          subst h1 h2 h3
          refine fin _ _ (.string _) hv (.one (cs := [_]) .str) (run_loadVar_cell hT w _ _ _ hag (cell_vec hb hc _ _ ?_))
          simp [List.getElem?_eq_getElem hlt]
        | nil => exact absurd hl1.req.1.2 (by simp)
        | cons h1 hz h2 =>
          rename_i s y l a0 b0
          obtain ⟨⟨h0, hlt⟩, hl2⟩ := hl1.req
          subst h0
          obtain ⟨a', ha, hal, hac⟩ := (RowC.cons h1 hz h2).avs_get i ((y :: l).getD i default) (by simp [List.getElem?_eq_getElem hlt])
          obtain ⟨u, h2, h3⟩ := ldC_run hT ha.comps (base := i * sz) (fun j u hj => cell_vec hb hc _ _ (hac j u hj)) hl2
          refine fin _ _ u hv h2 ?_
          simpa [Nat.add_comm] using h3
  · rename_i v0
    obtain ⟨cs, hv, hr⟩ := hx.inv (by simp)
    cases hr with
    | pel hr hs hc =>
      rename_i b o vals
      obtain ⟨u, h2, h3⟩ := ldC_run hT (hr.comps.mono (Evo.refl w) D (fun _ h => h.elim)) hc hl
      exact fin _ _ u hv h2 (by simpa using h3)

theorem sound_load {T : Nat} {ti : TI} {x : Operand} {p v : AV} (hT : TyOK P T ti) (h : ev G t x = some p) (hl : Ok (ldP e ti p) v) :
    OpSound P G t e nb ⟨dst, .load T x, ty, pos, after, gd⟩ v [] := by
  intro B ρ D t' e' a w ht hle hg _
  obtain ⟨b, o, y, h1, h2, h3⟩ := ldP_run (P := P) hg hle hT (ev_sound hg ht h) hl
  refine .value (x := y) (w' := w) ?_ (Post.pure hg.mem h2)
  simp only [execOp, h1, Instr.loadAt, Instr.sureAddr, Sem.run_bind, Sem.run_pure, Result.andThen_ok, h3]

/-! ### Stores -/

def AV.isTup : AV → Bool
  | .tup _ => true
  | _ => false
def stC (ti : TI) (cs : List AV) (o i : Nat) (v : AV) : Q (List AV) :=
  if ti.kd.agg = true then req (i = 0 ∧ v.isAgg = true ∧ szL (comps v) = some ti.size) (opt (takeC cs o) fun ds => opt (dropC cs (o + ti.size)) fun es => ret (ds ++ (comps v ++ es)))
  else req (ti.size = 1 ∧ v.isAgg = false ∧ v.isTup = false) (stS cs o i v)
def stE (ti : TI) (o i sz : Nat) (v : AV) : Ent → Q Ent
  | .obj T old => req (sz = 1) (bnd (stC ti (comps old) o i v) fun cs => ret (.obj T (.agg cs)))
  | .vec T (.ints k xs) => match v with | .int k' x => req (sz = 1 ∧ o = 0 ∧ ti.size = 1 ∧ i < xs.length ∧ k' = k) (ret (.vec T (.ints k (xs.set i x)))) | _ => none
  | .vec T (.strs ss) => match v with | .str x => req (sz = 1 ∧ o = 0 ∧ ti.size = 1 ∧ i < ss.length) (ret (.vec T (.strs (ss.set i x)))) | _ => none
  | .vec T (.avs s l) => req (sz = s ∧ o = 0 ∧ ti.kd.agg = true ∧ ti.size = s ∧ i < l.length ∧ v.isAgg = true ∧ szL (comps v) = some s) (ret (.vec T (.avs s (l.set i (.agg (comps v))))))
  | .mset _ => none
def stP (e : Ents) (ti : TI) (p v : AV) : Q Del :=
  match p with
  | .ptr nm o i sz => opt (lk e nm) fun x => bnd (stE ti o i sz v x) fun y => ret [(nm, some y)]
  | _ => none

theorem RV.unit {ρ : Nat → Nat} {S : Nat → Prop} {w : World} {N : Nat → Prop} : RV ρ S w N (.tup []) undef := .tup (vs := []) rfl (fun i x h => by simp at h)

theorem setCells_row (g : Nat) (t : TypeId) (fr : Nat × Nat) : ∀ (vs : List Value) (o : Nat) (cur : Array Value) (w : World), w.heap[g]? = some (.cells cur t fr) → o + vs.length ≤ cur.size →
    w.setCells g o vs = w.setRow g (cur.toList.take o ++ vs ++ cur.toList.drop (o + vs.length)).toArray
  | [], o, cur, w, hg, _ => by
    simp only [World.setCells, List.append_nil, List.length_nil, Nat.add_zero, List.take_append_drop, Array.toArray_toList]
    exact (setRow_self w g cur t fr hg).symm
  | v :: r, o, cur, w, hg, hl => by
    have hl' : o + (r.length + 1) ≤ cur.size := by simpa using hl
    rw [World.setCells, setCell_eq_setRow w g o cur t fr v hg, setCells_row g t fr r (o + 1) (cur.setIfInBounds o v) _ (setRow_heap w g cur _ t fr hg) (by simp; omega), setRow_setRow]
    congr 2
    have := list_seg_step cur.toList o v r (by simpa using hl')
    rw [Array.toList_setIfInBounds, this, List.length_cons]
theorem Cel.setRow {w : World} {b : Nat} {c c' : Array Value} {T : TypeId} (h : Cel w b c T) (hs : c'.size = c.size) : Cel (w.setRow b c') b c' T := by
  obtain ⟨fr, h, hfr⟩ := h
  exact ⟨fr, setRow_heap w b c c' T fr h, by rw [hs]; exact hfr⟩
theorem Rw.setRow {w : World} {b n : Nat} {c c' : Array Value} {T : TypeId} (hn : Rw w b n) (hs : c'.size = c.size) (h : Cel w b c T) : Rw (w.setRow b c') b n := by
  have h1 := (h.setRow hs).rw
  obtain ⟨fr, h, _⟩ := h
  obtain ⟨c0, T0, fr0, h0, e0⟩ := hn
  rw [h] at h0; cases h0
  rw [← e0, ← hs]; exact h1
theorem Cel.storeCells {w : World} {b o : Nat} {c : Array Value} {T : TypeId} {vs : List Value} (h : Cel w b c T) (hl : o + vs.length ≤ c.size) : w.setCells b o vs = w.setRow b (c.toList.take o ++ vs ++ c.toList.drop (o + vs.length)).toArray := by
  obtain ⟨fr, h, _⟩ := h
  exact setCells_row b T fr vs o c w h hl
theorem Cel.store {P : Program} {w : World} {b o : Nat} {c : Array Value} {T : TypeId} {vs : List Value} (h : Cel w b c T) (hl : o + vs.length ≤ c.size) (h1 : ∀ v ∈ vs, v.oneCell' = true) :
    (Go.storeCells ⟨b, o, none⟩ vs 0).run P w = .ok () (w.setRow b (c.toList.take o ++ vs ++ c.toList.drop (o + vs.length)).toArray) := by
  have := run_storeCells_cells (P := P) b o vs 0 w (fun j hj => by rw [h.cell]; simp; omega) (fun j hj => h.frozen (by omega)) h1
  rw [this, Nat.add_zero, h.storeCells hl]

/-- A block of an entry that is written. -/
theorem Post.write {B : Nat → Prop} {ρ : Nat → Nat} {D : Nat → Prop} {e : Ents} {w : World} (hm : Mem B ρ D e w) {nm : Nat} {x x' : Ent} (hx : lk e nm = some x) {c c' : Array Value} {T : TypeId}
    (hb : Cel w (ρ nm) c T) (hs : c'.size = c.size)
    (hr : ∀ (S' : Nat → Prop) (w' : World), Evo (Stab B ρ e w) S' w w' → Cel w' (ρ nm) c' T → EntR ρ S' w' D (ρ nm) x') :
    Post B ρ D e w nb (.tup []) [(nm, some x')] undef (w.setRow (ρ nm) c') := by
  have hb' := hb.setRow hs
  obtain ⟨h1, h2⟩ := hm.write (e' := ap [(nm, some x')] e) (w' := w.setRow (ρ nm) c') hx (fun n => lk_up e nm (some x') n) (fun b hq => setRow_other w _ _ _ hq) (size_setRow w _ _) rfl rfl rfl
    (fun n hn => hn.setRow hs hb) (fun he => hr _ _ he hb')
  exact ⟨ρ, D, fun _ h => .inl h, .unit, h1, h2⟩

theorem take_splice (l cs : List Value) (q : Nat) (u : Value) (hc : l.take cs.length = cs) (hq : q < cs.length) : (l.take q ++ [u] ++ l.drop (q + 1)).take cs.length = cs.set q u := by
  have hl : q < l.length := by
    have := congrArg List.length hc; rw [List.length_take] at this; omega
  have : l.take q ++ [u] ++ l.drop (q + 1) = l.set q u := by rw [List.set_eq_take_append_cons_drop, if_pos hl]; simp
  rw [this, List.take_set, hc]

theorem take_spliceL (l cs vs : List Value) (q : Nat) (hc : l.take cs.length = cs) (hq : q + vs.length ≤ cs.length) : (l.take q ++ vs ++ l.drop (q + vs.length)).take cs.length = cs.take q ++ vs ++ cs.drop (q + vs.length) := by
  have hl : cs.length ≤ l.length := by
    have := congrArg List.length hc; rw [List.length_take] at this; omega
  have e1 : cs.take q = l.take q := by
    conv => lhs; rw [← hc]
    rw [List.take_take]; congr 1; omega
  have e2 : cs.drop (q + vs.length) = (l.drop (q + vs.length)).take (cs.length - (q + vs.length)) := by
    conv => lhs; rw [← hc]
    rw [List.drop_take]
  have e3 : (l.take q ++ vs).length = q + vs.length := by simp; omega
  rw [e1, e2, List.take_append, List.take_of_length_le (by omega), e3]
theorem RowC.set {ρ : Nat → Nat} {S : Nat → Prop} {w : World} {N : Nat → Prop} {sz : Nat} {x : AV} {a : List Value} (hx : RC ρ S w N x a) (ha : a.length = sz) :
    ∀ {l : List AV} {cs : List Value}, RowC ρ S w N (.avs sz l) cs → ∀ i, i < l.length → RowC ρ S w N (.avs sz (l.set i x)) (cs.take (i * sz) ++ a ++ cs.drop (i * sz + sz)) ∧ i * sz + sz ≤ cs.length
  | [], _, _, i, hi => by simp at hi
  | y :: l, cs, h, i, hi => by
    cases h with
    | cons h1 hz h2 =>
      rename_i a0 b0
      cases i with
      | zero =>
        refine ⟨?_, by simp; omega⟩
        simp only [List.set_cons_zero, Nat.zero_mul, List.take_zero, List.nil_append, Nat.zero_add]
        have e1 : (a0 ++ b0).drop sz = b0 := by rw [← hz, List.drop_left]
        rw [e1]
        exact .cons hx ha h2
      | succ i =>
        obtain ⟨k1, k2⟩ := RowC.set hx ha h2 i (by simpa using hi)
        refine ⟨?_, by rw [Nat.add_mul, List.length_append]; omega⟩
        have e1 : (a0 ++ b0).take ((i + 1) * sz) = a0 ++ b0.take (i * sz) := by
          rw [List.take_append, List.take_of_length_le (by rw [Nat.add_mul]; omega)]
          congr 2; rw [Nat.add_mul]; omega
        have e2 : (a0 ++ b0).drop ((i + 1) * sz + sz) = b0.drop (i * sz + sz) := by
          rw [List.drop_append, List.drop_eq_nil_of_le (by rw [Nat.add_mul]; omega), List.nil_append]
          congr 1; rw [Nat.add_mul]; omega
        rw [e1, e2, List.set_cons_succ, List.append_assoc, List.append_assoc, ← List.append_assoc (b0.take _)]
        exact .cons h1 hz k1

theorem sound_store {T : Nat} {ti : TI} {x y : Operand} {p v : AV} {d : Del} (hT : TyOK P T ti) (h : ev G t x = some p) (hy : ev G t y = some v) (hl : Ok (stP e ti p v) d) :
    OpSound P G t e nb ⟨dst, .store T x y, ty, pos, after, gd⟩ (.tup []) d := by
  intro B ρ D t' e' a w ht hle hg _
  have hx := ev_sound hg ht h
  have hv := ev_sound hg ht hy
  cases p <;> simp only [stP] at hl <;> first | exact hl.none.elim | skip
  rename_i nm o i sz
  obtain ⟨z, hz, hl1⟩ := hl.opt
  clear hl
  obtain ⟨z', hl2, hl3⟩ := hl1.bnd
  have := hl3.ret; subst this
  clear hl1 hl3
  obtain ⟨cs, hp, hr⟩ := hx.inv (by simp)
  cases hr with
  | ptr _ =>
    have hz0 := hle _ _ hz
    have hz' := (hg.mem.en nm z hz0).2
    clear hz
    -- the store itself
    have fin : ∀ (q : Nat) (vs : List Value) (c : Array Value) (T' : TypeId) (u : Value), a.eval x = .pointer (some ⟨ρ nm, q, none⟩) → a.eval y = u → u.cells = vs.toArray → vs.length = ti.size → (∀ v ∈ vs, v.oneCell' = true) →
        Cel w (ρ nm) c T' → q + vs.length ≤ c.size →
        (∀ (S' : Nat → Prop) (w' : World), Evo (Stab B ρ e' w) S' w w' → Cel w' (ρ nm) (c.toList.take q ++ vs ++ c.toList.drop (q + vs.length)).toArray T' → EntR ρ S' w' D (ρ nm) z') →
        Runs P ⟨dst, .store T x y, ty, pos, after, gd⟩ a w (Post B ρ D e' w nb (.tup []) [(nm, some z')]) := by
      intro q vs c T' u h1 h2 h3 h4 h5 h6 h7 h8
      refine .skip (w' := w.setRow (ρ nm) (c.toList.take q ++ vs ++ c.toList.drop (q + vs.length)).toArray) ?_ (Post.write hg.mem hz0 h6 (by simp; omega) h8)
      have hst := h6.store (P := P) h7 h5
      have hsz : u.cells.size = ti.size := by rw [h3]; simpa using h4
      have htl : u.cells.toList = vs := by rw [h3]
      simp only [execOp, h1, h2, Instr.storeAt, Instr.sureAddr, Sem.run_bind, Sem.run_pure, Result.andThen_ok, storeVar, hT.run_size, hsz, ne_eq, not_true_eq_false, if_false, htl, hst]
    -- what is stored
    have hvc : ∃ vs, v.isAgg = v.isAgg ∧ (∀ l, v ≠ .tup l) → a.eval y = shape v vs ∧ RC ρ (Stab B ρ e' w) w D v vs := by
      by_cases hq : ∃ l, v = .tup l
      · obtain ⟨l, rfl⟩ := hq; exact ⟨[], fun hh => absurd rfl (hh.2 l)⟩
      · obtain ⟨vs, h1, h2⟩ := hv.inv (fun l hl => hq ⟨l, hl⟩); exact ⟨vs, fun _ => ⟨h1, h2⟩⟩
    obtain ⟨vs, hvs⟩ := hvc
    cases hz' with
    | mset _ _ => exact hl2.none.elim
    | obj hr hb =>
      rename_i T' old vals
      obtain ⟨h1, hl3⟩ := hl2.req
      subst h1
      obtain ⟨cs', hst, hl4⟩ := hl3.bnd
      have := hl4.ret; subst this
      unfold stC at hst
      split at hst
      · next hag =>
        obtain ⟨⟨h0, hva, hsz⟩, hl5⟩ := hst.req
        subst h0
        obtain ⟨ds, hd, hl6⟩ := hl5.opt
        obtain ⟨es, he, hl7⟩ := hl6.opt
        have := hl7.ret; subst this
        obtain ⟨hy1, hy2⟩ := hvs ⟨rfl, fun l hl => by subst hl; simp [AV.isAgg] at hva⟩
        have hlen := hy2.comps.szL hsz
        obtain ⟨h3, h4⟩ := hr.comps.take hd
        obtain ⟨h5, h6⟩ := hr.comps.drop he
        refine fin o vs vals.toArray T' (shape v vs) (by simpa [shape, AV.isAgg] using hp) hy1 hy2.cells hlen hy2.oneCell hb (by simp; omega) (fun S' w' hevo hb' => ?_)
        have hall : RC ρ (Stab B ρ e' w) w D (.agg (ds ++ (comps v ++ es))) (vals.take o ++ (vs ++ vals.drop (o + ti.size))) := h3.append (hy2.comps.append h5)
        refine .obj (hall.mono hevo D (fun n hn => ⟨hn, rfl⟩)) ?_
        rw [hlen] at hb'
        simpa using hb'
      · next hag =>
        obtain ⟨⟨h1s, hva, hvt⟩, hl5⟩ := hst.req
        obtain ⟨hy1, hy2⟩ := hvs ⟨rfl, fun l hl => by subst hl; cases hvt⟩
        obtain ⟨u, rfl⟩ : ∃ u, vs = [u] := by
          cases hy2 <;> first | exact ⟨_, rfl⟩ | (simp [AV.isAgg] at hva)
        obtain ⟨hlt, hr2⟩ := RC.stS hy2 hr.comps hl5
        refine fin (o + i) [u] vals.toArray T' (shape v [u]) (by simpa [shape, AV.isAgg] using hp) hy1 hy2.cells (by simp [h1s]) hy2.oneCell hb (by simp; omega) (fun S' w' hevo hb' => ?_)
        refine .obj (hr2.mono hevo D (fun n hn => ⟨hn, rfl⟩)) ?_
        rw [List.set_eq_take_append_cons_drop, if_pos hlt]
        simpa using hb'
    | vec hr hb hc =>
      rename_i T' r cs0 c
      have seg : ∀ (q : Nat) (u : Value), q < cs0.length → (c.toList.take q ++ [u] ++ c.toList.drop (q + [u].length)).toArray.toList.take (cs0.set q u).length = cs0.set q u :=
        fun q u hq => by simpa using take_splice c.toList cs0 q u hc hq
      have hle : cs0.length ≤ c.size := by
        have := congrArg List.length hc; rw [List.length_take] at this; simp at this; omega
      cases hr with
      | ints =>
        rename_i k xs
        simp only [stE] at hl2
        split at hl2
        · next k' x =>
          obtain ⟨⟨h1, h2, h3, hlt, h4⟩, h5⟩ := hl2.req
          have h5 := h5.ret
          subst h1 h2 h4 h5
          obtain ⟨hy1, hy2⟩ := hvs ⟨rfl, fun l hl => by cases hl⟩
          cases hy2
          refine fin i [_] c T' (.int k' x) (by simpa [shape, AV.isAgg] using hp) hy1 rfl (by simp [h3]) (by simp [Value.oneCell']) hb (by simp at hle ⊢; omega) (fun S' w' hevo hb' => ?_)
          refine .vec (cs := (xs.set i x).map (Value.int k')) .ints hb' ?_
          rw [List.map_set]
          exact seg i _ (by simpa using hlt)
        · exact hl2.none.elim
      | strs =>
        rename_i ss
        simp only [stE] at hl2
        split at hl2
        · next x =>
          obtain ⟨⟨h1, h2, h3, hlt⟩, h5⟩ := hl2.req
          have h5 := h5.ret
          subst h1 h2 h5
          obtain ⟨hy1, hy2⟩ := hvs ⟨rfl, fun l hl => by cases hl⟩
          cases hy2
          refine fin i [_] c T' (.string x) (by simpa [shape, AV.isAgg] using hp) hy1 rfl (by simp [h3]) (by simp [Value.oneCell']) hb (by simp at hle ⊢; omega) (fun S' w' hevo hb' => ?_)
          refine .vec (cs := (ss.set i x).map Value.string) .strs hb' ?_
          rw [List.map_set]
          exact seg i _ (by simpa using hlt)
        · exact hl2.none.elim
      | nil =>
        simp only [stE] at hl2
        exact absurd hl2.req.1.2.2.2.2.1 (by simp)
      | cons g1 gz g2 =>
        rename_i s y0 l0 a0 b0
        simp only [stE] at hl2
        obtain ⟨⟨h1, h2, hag, hts, hlt, hva, hsz⟩, h5⟩ := hl2.req
        have h5 := h5.ret
        subst h1 h2 h5
        obtain ⟨hy1, hy2⟩ := hvs ⟨rfl, fun l hl => by subst hl; simp [AV.isAgg] at hva⟩
        have hlen := hy2.comps.szL hsz
        obtain ⟨k1, k2⟩ := RowC.set hy2.comps hlen (RowC.cons g1 gz g2) i hlt
        have hcl : i * sz + vs.length ≤ c.size := by rw [hlen]; omega
        refine fin (i * sz) vs c T' (shape v vs) (by simpa [shape, AV.isAgg] using hp) hy1 hy2.cells (by omega) hy2.oneCell hb hcl (fun S' w' hevo hb' => ?_)
        refine .vec (k1.mono hevo (fun n hn => ⟨hn, rfl⟩)) hb' ?_
        have := take_spliceL c.toList (a0 ++ b0) vs (i * sz) hc (by rw [hlen]; exact k2)
        rw [List.toList_toArray]
        have e1 : ((a0 ++ b0).take (i * sz) ++ vs ++ (a0 ++ b0).drop (i * sz + sz)).length = (a0 ++ b0).length := by
          rw [List.length_append, List.length_append, List.length_take, List.length_drop, hlen]; omega
        rw [e1, this, hlen]

end

end Sx

/- Contracts of functions, and calls by contract. -/
set_option linter.unusedVariables false
set_option linter.unusedSimpArgs false
namespace Sx
open Go

/-- The names of entries. -/
def Nm (h : Ents) (n : Nat) : Prop := (lk h n).isSome = true

/-- What a call keeps. -/
structure Kept (B : Nat → Prop) (ρ : Nat → Nat) (h : Ents) (w : World) (ρ' : Nat → Nat) (h' : Ents) (w' : World) : Prop where
  evo : Evo (Stab B ρ h w) (Stab B ρ' h' w') w w'
  agree : ∀ n, Nm h n → Nm h' n → ρ' n = ρ n
  fresh : ∀ m x, lk h' m = some x → (∃ m0 x0, lk h m0 = some x0 ∧ ρ' m = ρ m0) ∨ w.heap.size ≤ ρ' m
  size : w.heap.size ≤ w'.heap.size
  os : w'.os = w.os
  out : w'.output = w.output
  tape : w'.tape = w.tape
  others : ∀ b : Nat, b < w.heap.size → (∀ m x, lk h m = some x → ρ m ≠ b) → w'.heap[b]? = w.heap[b]?

def GL (G : Nat → Option AV) (ρ : Nat → Nat) (S : Nat → Prop) (w : World) : Prop := ∀ g x, G g = some x → RC ρ S w NoNm (.pel x) [.pointer (some ⟨g, 0, none⟩)]

/-- The contract of a function: of these arguments, and these entries, comes this result, and those entries. -/
def FnR (P : Program) (G : Nat → Option AV) (f : FuncId) (args : List AV) (h : Ents) (r : AV) (h' : Ents) : Prop :=
  ∀ (B : Nat → Prop) (ρ : Nat → Nat) (w : World) (vs : List Value), (∀ b, w.heap.size ≤ b → B b) → Mem B ρ (Nm h) h w → GL G ρ (Stab B ρ h w) w → vs.length = args.length →
    (∀ (i : Nat) x, args[i]? = some x → ∃ v, vs[i]? = some v ∧ RV ρ (Stab B ρ h w) w (Nm h) x v) →
    Calls P f vs.toArray w fun e w' => ∃ x ρ', e = .returned x ∧ RV ρ' (Stab B ρ' h' w') w' (Nm h') r x ∧ Mem B ρ' (Nm h') h' w' ∧ Kept B ρ h w ρ' h' w'

mutual
/-- Names no memory that is by value: neither slices by value nor pointers into what nobody writes. -/
def AV.free : AV → Bool
  | .agg cs => AV.freeL cs
  | .tup l => AV.freeL l
  | .pel _ => false
  | .lstI _ _ => false
  | .lstS _ => false
  | .lst _ _ => false
  | .fn _ cap => AV.freeL cap
  | .ifc _ v => AV.free v
  | _ => true
def AV.freeL : List AV → Bool
  | [] => true
  | a :: l => AV.free a && AV.freeL l
end
theorem AV.freeL_get : ∀ {l : List AV}, AV.freeL l = true → ∀ (i : Nat) x, l[i]? = some x → AV.free x = true
  | [], _, i, x, h => by simp at h
  | a :: l, hb, 0, x, h => by rw [AV.freeL, Bool.and_eq_true] at hb; simp at h; subst h; exact hb.1
  | a :: l, hb, i + 1, x, h => by rw [AV.freeL, Bool.and_eq_true] at hb; exact AV.freeL_get (l := l) hb.2 i x (by simpa using h)

theorem RC.freed {ρ : Nat → Nat} {S S' : Nat → Prop} {w : World} {N : Nat → Prop} {a : AV} {cs : List Value} (h : RC ρ S w N a cs) : a.free = true → RC ρ S' w N a cs := by
  induction h with
  | int => intro _; exact .int
  | bool => intro _; exact .bool
  | str => intro _; exact .str
  | ints h => intro _; exact .ints h
  | nil => intro _; exact .nil
  | cons _ _ ih1 ih2 => intro hf; simp only [AV.free, AV.freeL, Bool.and_eq_true] at hf; exact .cons (ih1 hf.1) (ih2 (by simpa only [AV.free] using hf.2))
  | ptr h => intro _; exact .ptr h
  | pel => intro hf; simp [AV.free] at hf
  | sl h ha hl hm hb hc => intro _; exact .sl h ha hl hm hb hc
  | nils => intro _; exact .nils
  | nilp => intro _; exact .nilp
  | nilf => intro _; exact .nilf
  | nili => intro _; exact .nili
  | nilm => intro _; exact .nilm
  | lstI => intro hf; simp [AV.free] at hf
  | lstS => intro hf; simp [AV.free] at hf
  | lst => intro hf; simp [AV.free] at hf
  | fn vs _ hne ih => intro hf; simp only [AV.free] at hf; exact .fn vs (fun i x hi => ih i x hi (AV.freeL_get hf i x hi)) hne
  | fnb vs _ ih => intro hf; simp only [AV.free, AV.freeL, Bool.and_eq_true] at hf; exact .fnb vs (fun i x hi => ih i x hi (AV.freeL_get hf.2 i x hi))
  | ifc _ ih => intro hf; simp only [AV.free] at hf; exact .ifc (ih hf)
  | mp h => intro _; exact .mp h
  | unk h h2 => intro _; exact .unk h h2

mutual
theorem AV.map_id : ∀ a : AV, a.map (fun n => n) = a
  | .int _ _ | .bool _ | .str _ | .ints _ _ _ | .ptr _ _ _ _ | .pel _ | .sl _ _ _ _ | .nils | .nilp | .nilf | .nili | .nilm | .lstI _ _ | .lstS _ | .lst _ _ | .mp _ | .unk => by simp [AV.map]
  | .agg cs => by simp only [AV.map, AV.mapL_id cs]
  | .tup l => by simp only [AV.map, AV.mapL_id l]
  | .fn f cap => by simp only [AV.map, AV.mapL_id cap]
  | .ifc t v => by simp only [AV.map, AV.map_id v]
theorem AV.mapL_id : ∀ l : List AV, AV.mapL (fun n => n) l = l
  | [] => by simp [AV.mapL]
  | a :: l => by simp only [AV.mapL, AV.map_id a, AV.mapL_id l]
end
theorem RC.restrict {ρ : Nat → Nat} {S : Nat → Prop} {w : World} {N N' : Nat → Prop} {a : AV} {cs : List Value} (h : RC ρ S w N a cs) (hn : a.nmIn N') : RC ρ S w N' a cs :=
  h.unmap (τ := fun n => n) a N' (AV.map_id a) hn

end Sx

/- A call by contract. -/
set_option linter.unusedVariables false
set_option linter.unusedSimpArgs false
namespace Sx
open Go

/-! ### Names in entries -/

def Row.nmIn (N : Nat → Prop) : Row → Prop
  | .avs _ l => AV.nmInL N l
  | _ => True
def Ent.nmIn (N : Nat → Prop) : Ent → Prop
  | .obj _ v => v.nmIn N
  | .vec _ r => r.nmIn N
  | .mset _ => True
def Row.free : Row → Bool
  | .avs _ l => AV.freeL l
  | _ => true
def Ent.free : Ent → Bool
  | .obj _ v => v.free
  | .vec _ r => r.free
  | .mset _ => true
def entsIn (N : Nat → Prop) : Ents → Prop
  | [] => True
  | (_, x) :: l => x.nmIn N ∧ entsIn N l
def entsFree : Ents → Bool
  | [] => true
  | (_, x) :: l => x.free && entsFree l
theorem entsIn_get {N : Nat → Prop} {e : Ents} (h : entsIn N e) : ∀ m x, lk e m = some x → x.nmIn N := by
  induction e with
  | nil => intro m x hm; cases hm
  | cons p e ih =>
    obtain ⟨k, y⟩ := p
    intro m x hm
    simp only [lk] at hm
    split at hm
    · cases hm; exact h.1
    · exact ih h.2 m x hm
theorem entsFree_get {e : Ents} (h : entsFree e = true) : ∀ m x, lk e m = some x → x.free = true := by
  induction e with
  | nil => intro m x hm; cases hm
  | cons p e ih =>
    obtain ⟨k, y⟩ := p
    intro m x hm
    simp only [entsFree, Bool.and_eq_true] at h
    simp only [lk] at hm
    split at hm
    · cases hm; exact h.1
    · exact ih h.2 m x hm

section
variable {ρ : Nat → Nat} {S S' : Nat → Prop} {w : World} {N N' : Nat → Prop}
theorem RowC.restrict {r : Row} {cs : List Value} (h : RowC ρ S w N r cs) : r.nmIn N' → RowC ρ S w N' r cs := by
  induction h with
  | ints => intro _; exact .ints
  | strs => intro _; exact .strs
  | nil => intro _; exact .nil
  | cons h1 hz _ ih => intro hn; exact .cons (h1.restrict hn.1) hz (ih hn.2)
theorem RowC.freed {r : Row} {cs : List Value} (h : RowC ρ S w N r cs) : r.free = true → RowC ρ S' w N r cs := by
  induction h with
  | ints => intro _; exact .ints
  | strs => intro _; exact .strs
  | nil => intro _; exact .nil
  | cons h1 hz _ ih => intro hn; simp only [Row.free, AV.freeL, Bool.and_eq_true] at hn; exact .cons (h1.freed hn.1) hz (ih (by simpa only [Row.free] using hn.2))
theorem EntR.restrict {b : Nat} {x : Ent} (h : EntR ρ S w N b x) (hn : x.nmIn N') : EntR ρ S w N' b x := by
  cases h with
  | obj h hb => exact .obj (h.restrict hn) hb
  | vec h hb hc => exact .vec (h.restrict hn) hb hc
  | mset hs hb => exact .mset hs hb
theorem EntR.freed {b : Nat} {x : Ent} (h : EntR ρ S w N b x) (hn : x.free = true) : EntR ρ S' w N b x := by
  cases h with
  | obj h hb => exact .obj (h.freed hn) hb
  | vec h hb hc => exact .vec (h.freed hn) hb hc
  | mset hs hb => exact .mset hs hb
theorem RV.restrict {a : AV} {v : Value} (h : RV ρ S w N a v) (hn : a.nmIn N') : RV ρ S w N' a v := by
  cases h with
  | one h => exact .one (h.restrict hn)
  | tup hl h => exact .tup hl (fun i x hi => let ⟨cs, h1, h2⟩ := h i x hi; ⟨cs, h1.restrict (AV.nmInL_get hn i x hi), h2⟩)
theorem RV.freed {a : AV} {v : Value} (h : RV ρ S w N a v) (hn : a.free = true) : RV ρ S' w N a v := by
  cases h with
  | one h => exact .one (h.freed hn)
  | tup hl h => simp only [AV.free] at hn; exact .tup hl (fun i x hi => let ⟨cs, h1, h2⟩ := h i x hi; ⟨cs, h1.freed (AV.freeL_get hn i x hi), h2⟩)
end

/-! ### What one owns, seen by value -/

/-- The row that an entry is. -/
def Ent.row : Ent → Option Row
  | .obj _ (.agg [.ints k _ xs]) => some (.ints k xs)
  | .vec _ r => some r
  | _ => none
def viewR (sz off len : Nat) : Row → Q AV
  | .ints k xs => req (sz = 1 ∧ off + len ≤ xs.length) (ret (.lstI k ((xs.drop off).take len)))
  | .strs ss => req (sz = 1 ∧ off + len ≤ ss.length) (ret (.lstS ((ss.drop off).take len)))
  | .avs s l => req (s = sz ∧ off + len ≤ l.length ∧ AV.nmInL NoNm ((l.drop off).take len)) (ret (.lst sz ((l.drop off).take len)))

/-- A cell of a row that is seen by value: a row of one's own is seen by value too. -/
def viewC (e h : Ents) : AV → Q AV
  | .sl nm sz off len =>
    match lk h nm with
    | some _ => none
    | none => opt (lk e nm) fun x => opt x.row fun r => viewR sz off len r
  | a => req (a.nmIn NoNm) (ret a)
def viewCs (e h : Ents) : List AV → Q (List AV)
  | [] => ret []
  | a :: l => bnd (viewC e h a) fun x => bnd (viewCs e h l) fun r => ret (x :: r)
/-- An element of a row that is seen by value: an aggregate cell by cell. -/
def viewE (e h : Ents) : AV → Q AV
  | .agg cs => bnd (viewCs e h cs) fun r => ret (.agg r)
  | a => viewC e h a
def viewEL (e h : Ents) : Nat → Nat → List AV → Q (List AV)
  | _, 0, _ => ret []
  | 0, n + 1, a :: l => bnd (viewE e h a) fun x => bnd (viewEL e h 0 n l) fun r => ret (x :: r)
  | k + 1, n + 1, _ :: l => viewEL e h k (n + 1) l
  | _, _ + 1, [] => none
def viewL (e h : Ents) (sz off len s : Nat) (l : List AV) : Q AV := req (s = sz ∧ off + len ≤ l.length) (bnd (viewEL e h off len l) fun l' => ret (.lst sz l'))

/-- An argument: by name where its entry goes along (hn), else by value; was something seen by value? -/
def vw (e h : Ents) : AV → Q (AV × Bool)
  | .sl nm sz off len =>
    match lk h nm with
    | some _ => ret (.sl nm sz off len, false)
    | none => opt (lk e nm) fun x => opt x.row fun r => bnd (match r with
      | .avs s l => viewL e h sz off len s l
      | .ints k xs => viewR sz off len (.ints k xs)
      | .strs ss => viewR sz off len (.strs ss)) fun v => ret (v, true)
  | .agg cs => bnd (vwL cs) fun r => ret (.agg r.1, r.2)
  | .ifc t v => bnd (vw e h v) fun r => ret (.ifc t r.1, r.2)
  | a => req (a.nmIn (Nm h)) (ret (a, false))
where
  vwL : List AV → Q (List AV × Bool)
  | [] => ret ([], false)
  | a :: l => bnd (vw e h a) fun r => bnd (vwL l) fun s => ret (r.1 :: s.1, r.2 || s.2)

theorem view_cells {ρ : Nat → Nat} {S : Nat → Prop} {w : World} {N : Nat → Prop} {b : Nat} {x : Ent} {r : Row} (h : EntR ρ S w N b x) (hr : x.row = some r) :
    ∃ c T cs, Cel w b c T ∧ RowC ρ S w N r cs ∧ c.toList.take cs.length = cs := by
  cases h with
  | obj h hb =>
    rename_i T v cs
    unfold Ent.row at hr
    split at hr
    · next heq =>
      cases heq
      cases hr
      cases h with
      | cons h1 h2 =>
        cases h2
        cases h1
        exact ⟨_, T, _, hb, .ints, by simp [List.take_of_length_le]⟩
    · next heq => cases heq
    · cases hr
  | mset _ _ => cases hr
  | vec h hb hc =>
    simp only [Ent.row, Option.some.injEq] at hr
    subst hr
    exact ⟨_, _, _, hb, h, hc⟩

theorem RowC.avs_at {ρ : Nat → Nat} {S : Nat → Prop} {w : World} {N : Nat → Prop} {sz : Nat} {l : List AV} {cs : List Value} (h : RowC ρ S w N (.avs sz l) cs) :
    ∃ vs : Nat → List Value, ∀ i (x : AV), l[i]? = some x → RC ρ S w N x (vs i) ∧ (vs i).length = sz ∧ ∀ j u, (vs i)[j]? = some u → cs[i * sz + j]? = some u := by
  have key : ∀ i, ∃ a, ∀ x : AV, l[i]? = some x → RC ρ S w N x a ∧ a.length = sz ∧ ∀ j u, a[j]? = some u → cs[i * sz + j]? = some u := by
    intro i
    cases hi : l[i]? with
    | none => exact ⟨[], fun x hx => by cases hx⟩
    | some x =>
      obtain ⟨a, h1, h2, h3⟩ := h.avs_get i x hi
      exact ⟨a, fun y hy => by cases hy; exact ⟨h1, h2, h3⟩⟩
  exact ⟨fun i => (key i).choose, fun i x hx => (key i).choose_spec x hx⟩

/-- The view of a slice of one's own. -/
theorem viewR_sound {ρ ρ' : Nat → Nat} {S S' : Nat → Prop} {w : World} {N N' : Nat → Prop} {nm sz off len : Nat} {x : Ent} {r : Row} {v : AV} {vals : List Value}
    (h : RC ρ S w N (.sl nm sz off len) vals) (hx : EntR ρ S w N (ρ nm) x) (hr : x.row = some r) (hv : Ok (viewR sz off len r) v) (hS : ∀ b, S b → S' b) (hb : S' (ρ nm)) :
    RC ρ' S' w N' v vals := by
  obtain ⟨c, T, cs, hb0, hrow, hc⟩ := view_cells hx hr
  have up : ∀ {a : AV} {l : List Value}, RC ρ S w NoNm a l → RC ρ' S' w NoNm a l := fun h => h.mono ⟨fun b hb => ⟨hS b hb, rfl⟩, fun b n h => h⟩ NoNm (fun _ h => h.elim)
  cases h with
  | sl _ ha hl hm _ _ =>
    rename_i cap a n0 hnm0 hblk0 hcap0
    -- a row that is not empty begins where it says
    have haddr : ∀ i, i < len → a = ⟨ρ nm, off * sz, none⟩ := by
      intro i hi
      rcases ha with ha | ⟨h0, _, _⟩
      · exact ha
      · omega
    cases hrow with
    | ints =>
      rename_i k xs
      simp only [viewR] at hv
      obtain ⟨⟨h1, h2⟩, h3⟩ := hv.req
      have h3 := h3.ret
      subst h1 h3
      have hlen : ((xs.drop off).take len).length = len := by rw [List.length_take, List.length_drop]; omega
      have := RC.lstI (ρ := ρ') (S := S') (w := w) (N := N') (k := k) (xs := (xs.drop off).take len) (a := some a) (cap := cap) (by omega) hm (fun i y hi => by
        have hi' : i < len := by have := (List.getElem?_eq_some_iff.1 hi).1; omega
        refine ⟨ρ nm, off, by rw [haddr i hi', Nat.mul_one], hb, ?_⟩
        rw [List.getElem?_take, if_pos hi', List.getElem?_drop] at hi
        exact cell_vec hb0 hc _ _ (by simp [hi]))
      rw [hlen] at this
      exact this
    | strs =>
      rename_i ss
      simp only [viewR] at hv
      obtain ⟨⟨h1, h2⟩, h3⟩ := hv.req
      have h3 := h3.ret
      subst h1 h3
      have hlen : ((ss.drop off).take len).length = len := by rw [List.length_take, List.length_drop]; omega
      have := RC.lstS (ρ := ρ') (S := S') (w := w) (N := N') (ss := (ss.drop off).take len) (a := some a) (cap := cap) (by omega) hm (fun i y hi => by
        have hi' : i < len := by have := (List.getElem?_eq_some_iff.1 hi).1; omega
        refine ⟨ρ nm, off, by rw [haddr i hi', Nat.mul_one], hb, ?_⟩
        rw [List.getElem?_take, if_pos hi', List.getElem?_drop] at hi
        exact cell_vec hb0 hc _ _ (by simp [hi]))
      rw [hlen] at this
      exact this
    | nil =>
      simp only [viewR] at hv
      obtain ⟨⟨h1, h2, hn⟩, h3⟩ := hv.req
      have h3 := h3.ret
      subst h1 h3
      simp only [List.length_nil] at h2
      obtain rfl : len = 0 := by omega
      simpa using RC.lst (ρ := ρ') (S := S') (w := w) (N := N') (l := []) (a := some a) (cap := cap) (fun _ => []) (by simp) hm (fun i x h => by simp at h) (fun i x h => by simp at h)
    | cons g1 gz g2 =>
      rename_i s y l a0 b0
      simp only [viewR] at hv
      obtain ⟨⟨h1, h2, hn⟩, h3⟩ := hv.req
      have h3 := h3.ret
      subst h1 h3
      obtain ⟨us, hus⟩ := (RowC.cons g1 gz g2).avs_at
      have hlen : (((y :: l).drop off).take len).length = len := by rw [List.length_take, List.length_drop]; omega
      have hget : ∀ i (x : AV), (((y :: l).drop off).take len)[i]? = some x → i < len ∧ (y :: l)[off + i]? = some x := by
        intro i x hi
        have hi' : i < len := by have := (List.getElem?_eq_some_iff.1 hi).1; omega
        rw [List.getElem?_take, if_pos hi', List.getElem?_drop] at hi
        exact ⟨hi', hi⟩
      have := RC.lst (ρ := ρ') (S := S') (w := w) (N := N') (sz := s) (l := ((y :: l).drop off).take len) (a := some a) (cap := cap) (fun i => us (off + i)) (by omega) hm
        (fun i x hi => up ((hus _ x (hget i x hi).2).1.restrict (AV.nmInL_get hn i x hi)))
        (fun i x hi => by
          obtain ⟨hi', hg⟩ := hget i x hi
          obtain ⟨_, hz, hcs⟩ := hus _ x hg
          refine ⟨hz, ρ nm, off * s, by rw [haddr i hi'], hb, fun j u hj => ?_⟩
          have := cell_vec hb0 hc _ _ (hcs j u hj)
          rwa [Nat.add_mul] at this)
      rw [hlen] at this
      exact this

theorem viewEL_get {e h : Ents} : ∀ {off len : Nat} {l l' : List AV}, Ok (viewEL e h off len l) l' → l'.length = len ∧ ∀ i y, l'[i]? = some y → ∃ x, l[off + i]? = some x ∧ Ok (viewE e h x) y
  | off, 0, l, l', hk => by
    simp only [viewEL] at hk
    cases hk.ret
    exact ⟨rfl, fun i y h => by simp at h⟩
  | 0, n + 1, a :: l, l', hk => by
    simp only [viewEL] at hk
    obtain ⟨x, h1, hk⟩ := hk.bnd
    obtain ⟨r, h2, hk⟩ := hk.bnd
    cases hk.ret
    obtain ⟨h3, h4⟩ := viewEL_get h2
    refine ⟨by simp [h3], fun i y hi => ?_⟩
    cases i with
    | zero => simp at hi; subst hi; exact ⟨a, rfl, h1⟩
    | succ i =>
      obtain ⟨z, h5, h6⟩ := h4 i y (by simpa using hi)
      exact ⟨z, by rw [Nat.zero_add] at h5 ⊢; simpa using h5, h6⟩
  | k + 1, n + 1, a :: l, l', hk => by
    simp only [viewEL] at hk
    obtain ⟨h3, h4⟩ := viewEL_get hk
    refine ⟨h3, fun i y hi => ?_⟩
    obtain ⟨z, h5, h6⟩ := h4 i y hi
    exact ⟨z, by rw [show k + 1 + i = (k + i) + 1 by omega]; simpa using h5, h6⟩
  | off, n + 1, [], l', hk => by
    cases off <;> (simp only [viewEL] at hk; exact hk.none.elim)

/-- The view of a slice of one's own, its elements seen by value too. -/
theorem viewL_sound {ρ ρ' : Nat → Nat} {S S' : Nat → Prop} {w : World} {N N' : Nat → Prop} {e h : Ents} {nm sz off len s : Nat} {x : Ent} {l : List AV} {v : AV} {vals : List Value}
    (hsl : RC ρ S w N (.sl nm sz off len) vals) (hx : EntR ρ S w N (ρ nm) x) (hr : x.row = some (.avs s l)) (hv : Ok (viewL e h sz off len s l) v) (hS : ∀ b, S b → S' b) (hb : S' (ρ nm))
    (hE : ∀ nm x, lk e nm = some x → EntR ρ S w N (ρ nm) x) (hall : ∀ nm x, lk e nm = some x → lk h nm = none → S' (ρ nm)) :
    RC ρ' S' w N' v vals := by
  obtain ⟨c, T, cs, hb0, hrow, hc⟩ := view_cells hx hr
  have up : ∀ {a : AV} {l : List Value}, RC ρ S w NoNm a l → RC ρ' S' w NoNm a l := fun h => h.mono ⟨fun b hb => ⟨hS b hb, rfl⟩, fun b n h => h⟩ NoNm (fun _ h => h.elim)
  have elC : ∀ (a y : AV) (us : List Value), RC ρ S w N a us → Ok (viewC e h a) y → RC ρ' S' w NoNm y us := by
    intro a y us hra hk
    have oth : Ok (req (a.nmIn NoNm) (ret a)) y → RC ρ' S' w NoNm y us := fun hk => by
      obtain ⟨h1, h2⟩ := hk.req
      have := h2.ret; subst this
      exact up (hra.restrict h1)
    cases a <;> first | exact oth hk | skip
    rename_i nm' sz' off' len'
    simp only [viewC] at hk
    split at hk
    · exact hk.none.elim
    · next hno =>
      obtain ⟨x', hx', hk⟩ := hk.opt
      obtain ⟨r', hr', hk⟩ := hk.opt
      exact viewR_sound hra (hE nm' x' hx') hr' hk hS (hall nm' x' hx' hno)
  have elCs : ∀ (cs ys : List AV) (us : List Value), RC ρ S w N (.agg cs) us → Ok (viewCs e h cs) ys → RC ρ' S' w NoNm (.agg ys) us := by
    intro cs
    induction cs with
    | nil =>
      intro ys us hra hk
      simp only [viewCs] at hk
      cases hk.ret
      cases hra
      exact .nil
    | cons a l ih =>
      intro ys us hra hk
      simp only [viewCs] at hk
      obtain ⟨x, h1, hk⟩ := hk.bnd
      obtain ⟨r, h2, hk⟩ := hk.bnd
      cases hk.ret
      cases hra with
      | cons g1 g2 => exact .cons (elC a x _ g1 h1) (ih r _ g2 h2)
  have el : ∀ (a y : AV) (us : List Value), RC ρ S w N a us → Ok (viewE e h a) y → RC ρ' S' w NoNm y us := by
    intro a y us hra hk
    cases a <;> first | exact elC _ y us hra hk | skip
    simp only [viewE] at hk
    obtain ⟨r, h1, hk⟩ := hk.bnd
    cases hk.ret
    exact elCs _ r us hra h1
  cases hsl with
  | sl _ ha hl hm _ _ =>
    rename_i cap a n0 hnm0 hblk0 hcap0
    have haddr : ∀ i, i < len → a = ⟨ρ nm, off * sz, none⟩ := by
      intro i hi
      rcases ha with ha | ⟨h0, _, _⟩
      · exact ha
      · omega
    unfold viewL at hv
    obtain ⟨⟨h1, h2⟩, h3⟩ := hv.req
    obtain ⟨l', h4, h5⟩ := h3.bnd
    have h5 := h5.ret
    subst h1 h5
    obtain ⟨hlen, hget⟩ := viewEL_get h4
    obtain ⟨us, hus⟩ := hrow.avs_at
    have := RC.lst (ρ := ρ') (S := S') (w := w) (N := N') (sz := s) (l := l') (a := some a) (cap := cap) (fun i => us (off + i)) (by omega) hm
      (fun i y hi => by
        obtain ⟨z, h6, h7⟩ := hget i y hi
        exact el z y _ (hus _ z h6).1 h7)
      (fun i y hi => by
        have hi' : i < len := by have := (List.getElem?_eq_some_iff.1 hi).1; omega
        obtain ⟨z, h6, h7⟩ := hget i y hi
        obtain ⟨_, hz, hcs⟩ := hus _ z h6
        refine ⟨hz, ρ nm, off * s, by rw [haddr i hi'], hb, fun j u hj => ?_⟩
        have := cell_vec hb0 hc _ _ (hcs j u hj)
        rwa [Nat.add_mul] at this)
    rw [hlen] at this
    exact this

section
variable {ρ : Nat → Nat} {S S' : Nat → Prop} {w : World} {N : Nat → Prop} {e h : Ents} {F : Bool}
theorem RC.widen {N' : Nat → Prop} {a : AV} {cs : List Value} (hr : RC ρ S w N a cs) (hS : ∀ b, S b → S' b) (hn : a.nmIn N') : RC ρ S' w N' a cs :=
  (hr.restrict hn).mono ⟨fun b hb => ⟨hS b hb, rfl⟩, fun b n h => h⟩ N' (fun n h => ⟨h, rfl⟩)
mutual
theorem vw_sound (hS : ∀ b, S b → S' b) (hE : ∀ nm x, lk e nm = some x → EntR ρ S w N (ρ nm) x) (hv : F = true → ∀ nm x, lk e nm = some x → lk h nm = none → S' (ρ nm)) :
    ∀ (a : AV) (cs : List Value) (a' : AV) (f : Bool), RC ρ S w N a cs → Ok (vw e h a) (a', f) → (f = true → F = true) → RC ρ S' w (Nm h) a' cs ∧ a'.isAgg = a.isAgg
  | .sl nm sz off len, cs, a', f, hr, hk, hf => by
    simp only [vw] at hk
    split at hk
    · next y hy => cases hk.ret; exact ⟨hr.widen hS (by simp [AV.nmIn, Nm, hy]), rfl⟩
    · next hy =>
      obtain ⟨x, hx, hk⟩ := hk.opt
      obtain ⟨r, hr', hk⟩ := hk.opt
      obtain ⟨v, hv', hk⟩ := hk.bnd
      cases hk.ret
      cases r with
      | avs s l =>
        refine ⟨viewL_sound hr (hE nm x hx) hr' hv' hS (hv (hf rfl) nm x hx hy) hE (hv (hf rfl)), ?_⟩
        unfold viewL at hv'
        obtain ⟨l', _, h5⟩ := hv'.req.2.bnd
        have := h5.ret; subst this; rfl
      | ints =>
        refine ⟨viewR_sound hr (hE nm x hx) hr' hv' hS (hv (hf rfl) nm x hx hy), ?_⟩
        simp only [viewR] at hv'; have := hv'.req.2.ret; subst this; rfl
      | strs =>
        refine ⟨viewR_sound hr (hE nm x hx) hr' hv' hS (hv (hf rfl) nm x hx hy), ?_⟩
        simp only [viewR] at hv'; have := hv'.req.2.ret; subst this; rfl
  | .agg cs0, cs, a', f, hr, hk, hf => by
    simp only [vw] at hk
    obtain ⟨⟨l, g⟩, h1, hk⟩ := hk.bnd
    cases hk.ret
    exact ⟨vwL_sound hS hE hv cs0 cs l g hr h1 hf, rfl⟩
  | .ifc t v, cs, a', f, hr, hk, hf => by
    simp only [vw] at hk
    obtain ⟨⟨l, g⟩, h1, hk⟩ := hk.bnd
    cases hk.ret
    cases hr with
    | ifc hr =>
      obtain ⟨h2, h3⟩ := vw_sound hS hE hv v _ l g hr h1 hf
      refine ⟨?_, rfl⟩
      have : ∀ cs, shape v cs = shape l cs := fun cs => by simp only [shape, h3]
      rw [this]
      exact .ifc h2
  | .int k n, cs, a', f, hr, hk, hf => by simp only [vw] at hk; cases hk.req.2.ret; exact ⟨hr.widen hS hk.req.1, rfl⟩
  | .bool b, cs, a', f, hr, hk, hf => by simp only [vw] at hk; cases hk.req.2.ret; exact ⟨hr.widen hS hk.req.1, rfl⟩
  | .str b, cs, a', f, hr, hk, hf => by simp only [vw] at hk; cases hk.req.2.ret; exact ⟨hr.widen hS hk.req.1, rfl⟩
  | .ints k n xs, cs, a', f, hr, hk, hf => by simp only [vw] at hk; cases hk.req.2.ret; exact ⟨hr.widen hS hk.req.1, rfl⟩
  | .tup l, cs, a', f, hr, hk, hf => by simp only [vw] at hk; cases hk.req.2.ret; exact ⟨hr.widen hS hk.req.1, rfl⟩
  | .ptr nm o i sz, cs, a', f, hr, hk, hf => by simp only [vw] at hk; cases hk.req.2.ret; exact ⟨hr.widen hS hk.req.1, rfl⟩
  | .pel v, cs, a', f, hr, hk, hf => by simp only [vw] at hk; cases hk.req.2.ret; exact ⟨hr.widen hS hk.req.1, rfl⟩
  | .nils, cs, a', f, hr, hk, hf => by simp only [vw] at hk; cases hk.req.2.ret; exact ⟨hr.widen hS hk.req.1, rfl⟩
  | .nilp, cs, a', f, hr, hk, hf => by simp only [vw] at hk; cases hk.req.2.ret; exact ⟨hr.widen hS hk.req.1, rfl⟩
  | .nilf, cs, a', f, hr, hk, hf => by simp only [vw] at hk; cases hk.req.2.ret; exact ⟨hr.widen hS hk.req.1, rfl⟩
  | .nili, cs, a', f, hr, hk, hf => by simp only [vw] at hk; cases hk.req.2.ret; exact ⟨hr.widen hS hk.req.1, rfl⟩
  | .nilm, cs, a', f, hr, hk, hf => by simp only [vw] at hk; cases hk.req.2.ret; exact ⟨hr.widen hS hk.req.1, rfl⟩
  | .lstI k xs, cs, a', f, hr, hk, hf => by simp only [vw] at hk; cases hk.req.2.ret; exact ⟨hr.widen hS hk.req.1, rfl⟩
  | .lstS ss, cs, a', f, hr, hk, hf => by simp only [vw] at hk; cases hk.req.2.ret; exact ⟨hr.widen hS hk.req.1, rfl⟩
  | .lst sz l, cs, a', f, hr, hk, hf => by simp only [vw] at hk; cases hk.req.2.ret; exact ⟨hr.widen hS hk.req.1, rfl⟩
  | .fn g cap, cs, a', f, hr, hk, hf => by simp only [vw] at hk; cases hk.req.2.ret; exact ⟨hr.widen hS hk.req.1, rfl⟩
  | .mp nm, cs, a', f, hr, hk, hf => by simp only [vw] at hk; cases hk.req.2.ret; exact ⟨hr.widen hS hk.req.1, rfl⟩
  | .unk, cs, a', f, hr, hk, hf => by simp only [vw] at hk; cases hk.req.2.ret; exact ⟨hr.widen hS hk.req.1, rfl⟩
theorem vwL_sound (hS : ∀ b, S b → S' b) (hE : ∀ nm x, lk e nm = some x → EntR ρ S w N (ρ nm) x) (hv : F = true → ∀ nm x, lk e nm = some x → lk h nm = none → S' (ρ nm)) :
    ∀ (l : List AV) (cs : List Value) (l' : List AV) (f : Bool), RC ρ S w N (.agg l) cs → Ok (vw.vwL e h l) (l', f) → (f = true → F = true) → RC ρ S' w (Nm h) (.agg l') cs
  | [], cs, l', f, hr, hk, hf => by
    simp only [vw.vwL] at hk
    cases hk.ret
    cases hr
    exact .nil
  | a :: l, cs, l', f, hr, hk, hf => by
    simp only [vw.vwL] at hk
    obtain ⟨⟨a1, f1⟩, h1, hk⟩ := hk.bnd
    obtain ⟨⟨l1, g1⟩, h2, hk⟩ := hk.bnd
    cases hk.ret
    cases hr with
    | cons r1 r2 =>
      exact .cons (vw_sound hS hE hv a _ a1 f1 r1 h1 (fun q => hf (by simp [q]))).1 (vwL_sound hS hE hv l _ l1 g1 r2 h2 (fun q => hf (by simp [q])))
end
end

theorem AV.nmInL_mk {N : Nat → Prop} : ∀ {l : List AV}, (∀ (i : Nat) x, l[i]? = some x → x.nmIn N) → AV.nmInL N l
  | [], _ => trivial
  | a :: l, h => ⟨h 0 a rfl, AV.nmInL_mk (fun i x hi => h (i + 1) x (by simpa using hi))⟩
theorem RC.nm {ρ : Nat → Nat} {S : Nat → Prop} {w : World} {N : Nat → Prop} {a : AV} {cs : List Value} (h : RC ρ S w N a cs) : a.nmIn N := by
  induction h with
  | cons _ _ ih1 ih2 => exact ⟨ih1, ih2⟩
  | ptr h => exact h
  | sl h => exact h
  | mp h => exact h
  | fn vs _ _ ih => exact AV.nmInL_mk (fun i x hi => ih i x hi)
  | fnb vs _ ih => exact ⟨trivial, AV.nmInL_mk (fun i x hi => ih i x hi)⟩
  | ifc _ ih => exact ih
  | _ => trivial
mutual
theorem AV.nmIn_and {N N' : Nat → Prop} : ∀ a : AV, a.nmIn N → a.nmIn N' → a.nmIn (fun n => N n ∧ N' n)
  | .agg cs, h, h' => AV.nmInL_and cs h h'
  | .tup cs, h, h' => AV.nmInL_and cs h h'
  | .fn _ cs, h, h' => AV.nmInL_and cs h h'
  | .ifc _ v, h, h' => AV.nmIn_and v h h'
  | .ptr _ _ _ _, h, h' => ⟨h, h'⟩
  | .sl _ _ _ _, h, h' => ⟨h, h'⟩
  | .mp _, h, h' => ⟨h, h'⟩
  | .unk, _, _ => trivial
  | .int _ _, _, _ | .bool _, _, _ | .str _, _, _ | .ints _ _ _, _, _ | .pel _, _, _ | .nils, _, _ | .nilp, _, _ | .nilf, _, _ | .nili, _, _ | .nilm, _, _ | .lstI _ _, _, _ | .lstS _, _, _ | .lst _ _, _, _ => trivial
theorem AV.nmInL_and {N N' : Nat → Prop} : ∀ l : List AV, AV.nmInL N l → AV.nmInL N' l → AV.nmInL (fun n => N n ∧ N' n) l
  | [], _, _ => trivial
  | a :: l, h, h' => ⟨AV.nmIn_and a h.1 h'.1, AV.nmInL_and l h.2 h'.2⟩
end
section
variable {ρ : Nat → Nat} {S : Nat → Prop} {w : World} {N N' : Nat → Prop}
theorem RC.restrict2 {a : AV} {cs : List Value} (h : RC ρ S w N a cs) (hn : a.nmIn N') : RC ρ S w (fun n => N' n ∧ N n) a cs := h.restrict (AV.nmIn_and a hn h.nm)
theorem RowC.restrict2 {r : Row} {cs : List Value} (h : RowC ρ S w N r cs) : r.nmIn N' → RowC ρ S w (fun n => N' n ∧ N n) r cs := by
  induction h with
  | ints => intro _; exact .ints
  | strs => intro _; exact .strs
  | nil => intro _; exact .nil
  | cons h1 hz _ ih => intro hn; exact .cons (h1.restrict2 hn.1) hz (ih hn.2)
theorem EntR.restrict2 {b : Nat} {x : Ent} (h : EntR ρ S w N b x) (hn : x.nmIn N') : EntR ρ S w (fun n => N' n ∧ N n) b x := by
  cases h with
  | obj h hb => exact .obj (h.restrict2 hn) hb
  | vec h hb hc => exact .vec (h.restrict2 hn) hb hc
  | mset hs hb => exact .mset hs hb
theorem RV.restrict2 {a : AV} {v : Value} (h : RV ρ S w N a v) (hn : a.nmIn N') : RV ρ S w (fun n => N' n ∧ N n) a v := by
  cases h with
  | one h => exact .one (h.restrict2 hn)
  | tup hl h => exact .tup hl (fun i x hi => let ⟨cs, h1, h2⟩ := h i x hi; ⟨cs, h1.restrict2 (AV.nmInL_get hn i x hi), h2⟩)
end

end Sx

/- A call by contract runs. -/
set_option linter.unusedVariables false
set_option linter.unusedSimpArgs false
namespace Sx
open Go

def Callable (P : Program) (f : FuncId) : Prop := ∃ fn, P.funcs[f]? = some fn ∧ (fn.name == "runtime.NumGoroutine") = false ∧ fn.body.isNone = false

theorem Callable.run {P : Program} {f : FuncId} (h : Callable P f) (vs : Array Value) (w : World) : (callFunc f vs).run P w = .ok (.enter f vs) w := by
  obtain ⟨fn, h1, h2, h3⟩ := h
  have h4 : fn.name ≠ "runtime.NumGoroutine" := fun q => by rw [q] at h2; simp at h2
  have h5 : fn.body ≠ none := fun q => by rw [q] at h3; simp at h3
  simp [callFunc, h1, h4, h5]

def evL (G : Nat → Option AV) (t : Tms) : List Operand → Option (List AV)
  | [] => some []
  | x :: l => (ev G t x).bind fun a => (evL G t l).map (a :: ·)

def isTupL : List AV → Bool
  | [] => false
  | a :: l => a.isTup || isTupL l

theorem evL_sound {B : Nat → Prop} {G : Nat → Option AV} {ρ : Nat → Nat} {D : Nat → Prop} {t t' : Tms} {e : Ents} {a : Act} {w : World} (hg : Good B G ρ D t' e a w) (hl : Le t t') : ∀ {xs : List Operand} {as : List AV}, evL G t xs = some as → isTupL as = false →
    ∃ cs : List (List Value), cs.length = as.length ∧ (xs.map a.eval) = (as.zip cs).map (fun p => shape p.1 p.2) ∧ ∀ (i : Nat) x, as[i]? = some x → ∃ c, cs[i]? = some c ∧ RC ρ (Stab B ρ e w) w D x c
  | [], as, h, _ => by cases h; exact ⟨[], rfl, rfl, fun i x hi => by simp at hi⟩
  | x :: xs, as, h, ht => by
    simp only [evL, Option.bind_eq_some_iff, Option.map_eq_some_iff] at h
    obtain ⟨y, hy, ys, hys, rfl⟩ := h
    simp only [isTupL, Bool.or_eq_false_iff] at ht
    obtain ⟨cs, h1, h2, h3⟩ := evL_sound hg hl hys ht.2
    obtain ⟨c, hc, hr⟩ := (ev_sound hg hl hy).inv (fun l hq => by subst hq; cases ht.1)
    refine ⟨c :: cs, by simp [h1], by simp [hc, h2], fun i z hi => ?_⟩
    cases i with
    | zero => simp at hi; subst hi; exact ⟨c, by simp, hr⟩
    | succ i => obtain ⟨d, h4, h5⟩ := h3 i z (by simpa using hi); exact ⟨d, by simpa using h4, h5⟩

theorem vwL_get {ρ : Nat → Nat} {S S' : Nat → Prop} {w : World} {N : Nat → Prop} {e h : Ents} {F : Bool} (hS : ∀ b, S b → S' b) (hE : ∀ nm x, lk e nm = some x → EntR ρ S w N (ρ nm) x) (hv : F = true → ∀ nm x, lk e nm = some x → lk h nm = none → S' (ρ nm)) :
    ∀ (l : List AV) (cs : List (List Value)) (l' : List AV) (f : Bool), cs.length = l.length → (∀ (i : Nat) x, l[i]? = some x → ∃ c, cs[i]? = some c ∧ RC ρ S w N x c) → Ok (vw.vwL e h l) (l', f) → (f = true → F = true) →
      l'.length = l.length ∧ (l.zip cs).map (fun p => shape p.1 p.2) = (l'.zip cs).map (fun p => shape p.1 p.2) ∧ ∀ (i : Nat) x, l'[i]? = some x → ∃ c, cs[i]? = some c ∧ RC ρ S' w (Nm h) x c
  | [], cs, l', f, hl, hr, hk, hf => by
    simp only [vw.vwL] at hk
    cases hk.ret
    exact ⟨rfl, rfl, fun i x hi => by simp at hi⟩
  | a :: l, [], l', f, hl, hr, hk, hf => by simp at hl
  | a :: l, c :: cs, l', f, hl, hr, hk, hf => by
    simp only [vw.vwL] at hk
    obtain ⟨⟨a1, f1⟩, h1, hk⟩ := hk.bnd
    obtain ⟨⟨l1, g1⟩, h2, hk⟩ := hk.bnd
    cases hk.ret
    obtain ⟨c0, hc0, r1⟩ := hr 0 a rfl
    simp at hc0; subst hc0
    obtain ⟨k1, k2⟩ := vw_sound hS hE hv a _ a1 f1 r1 h1 (fun q => hf (by simp [q]))
    obtain ⟨k3, k4, k5⟩ := vwL_get hS hE hv l cs l1 g1 (by simpa using hl) (fun i x hi => by simpa using hr (i + 1) x (by simpa using hi)) h2 (fun q => hf (by simp [q]))
    refine ⟨by simp [k3], ?_, fun i x hi => ?_⟩
    · simp only [List.zip_cons_cons, List.map_cons, k4]
      congr 1
      simp only [shape, k2]
    · cases i with
      | zero => simp at hi; subst hi; exact ⟨c, by simp, k1⟩
      | succ i => obtain ⟨d, h4, h5⟩ := k5 i x (by simpa using hi); exact ⟨d, by simpa using h4, h5⟩

def callDel (h h' : Ents) : Del := h.map (fun p => (p.1, none)) ++ (h'.reverse.map fun p => (p.1, some p.2))

theorem ap_append (d d' : Del) (e : Ents) : ap (d ++ d') e = ap d' (ap d e) := by
  induction d generalizing e with
  | nil => rfl
  | cons p d ih => obtain ⟨n, x⟩ := p; simp only [List.cons_append, ap]; exact ih _
theorem lk_ap_none (h : Ents) : ∀ (e : Ents) (m : Nat), lk (ap (h.map fun p => (p.1, none)) e) m = if (lk h m).isSome then none else lk e m := by
  induction h with
  | nil => intro e m; simp [ap, lk]
  | cons p h ih =>
    obtain ⟨n, x⟩ := p
    intro e m
    simp only [List.map_cons, ap, ih, lk_up, lk]
    by_cases hq : n = m
    · simp [hq]
    · simp [hq]
theorem lk_ap_some (h : Ents) : ∀ (e : Ents) (m : Nat), lk (ap (h.reverse.map fun p => (p.1, some p.2)) e) m = (lk h m).or (lk e m) := by
  induction h with
  | nil => intro e m; simp [ap, lk]
  | cons p h ih =>
    obtain ⟨n, x⟩ := p
    intro e m
    simp only [List.reverse_cons, List.map_append, List.map_cons, List.map_nil, ap_append, ap, lk_up, ih, lk]
    by_cases hq : n = m
    · simp [hq]
    · simp [hq]
theorem lk_callDel (h h' e : Ents) (m : Nat) : lk (ap (callDel h h') e) m = (lk h' m).or (if (lk h m).isSome then none else lk e m) := by
  rw [callDel, ap_append, lk_ap_some, lk_ap_none]

theorem zip_get {α β : Type} {l : List α} {m : List β} {i : Nat} {a : α} {b : β} (h1 : l[i]? = some a) (h2 : m[i]? = some b) : (l.zip m)[i]? = some (a, b) := by
  rw [List.getElem?_zip_eq_some]; exact ⟨h1, h2⟩
theorem isTupL_append (a b : List AV) : isTupL (a ++ b) = (isTupL a || isTupL b) := by
  induction a with
  | nil => rfl
  | cons x a ih => simp only [List.cons_append, isTupL, ih, Bool.or_assoc]
theorem zip_range (cap : List AV) (us : Nat → List Value) : (cap.zipIdx.map fun (x, i) => shape x (us i)) = (cap.zip ((List.range cap.length).map us)).map fun p => shape p.1 p.2 := by
  apply List.ext_getElem?
  intro i
  simp only [List.getElem?_map, List.getElem?_zipIdx, Nat.zero_add]
  cases hi : cap[i]? with
  | none =>
    rw [List.getElem?_eq_none (by simp; have := List.getElem?_eq_none_iff.1 hi; omega)]
    rfl
  | some x =>
    have hlt := (List.getElem?_eq_some_iff.1 hi).1
    rw [zip_get hi (by rw [List.getElem?_map, List.getElem?_range hlt]; rfl)]
    rfl

/-- The operation is a call of f with these arguments. -/
theorem sound_callX {P : Program} {G : Nat → Option AV} {t : Tms} {e : Ents} {nb : Nat} {o : Oper} {f : FuncId} {all args' : List AV} {h h' : Ents} {r : AV} {F : Bool}
    (hev : ∀ (B : Nat → Prop) (ρ : Nat → Nat) (D : Nat → Prop) (t' : Tms) (e' : Ents) (a : Act) (w : World), Le t t' → Good B G ρ D t' e' a w → ∃ cs : List (List Value), cs.length = all.length ∧
      (∀ (i : Nat) x, all[i]? = some x → ∃ c, cs[i]? = some c ∧ RC ρ (Stab B ρ e' w) w D x c) ∧ (execOp a.eval o).run P w = .ok (.enter f ((all.zip cs).map fun p => shape p.1 p.2).toArray) w)
    (hF : FnR P G f args' h r h') (hle : Le h e)
    (hvw : Ok (vw.vwL e h all) (args', F)) (hnew : ∀ n, Nm h' n → Nm h n ∨ (nb ≤ n ∧ n < nb + 16)) (hin : entsIn (Nm h) h) (hfree : F = true → r.free = true ∧ entsFree h' = true) :
    OpSound P G t e nb o r (callDel h h') := by
  intro B ρ D t' e' a w htt hee hg hD
  obtain ⟨cs, hl1, hrl, hrun⟩ := hev B ρ D t' e' a w htt hg
  let B' : Nat → Prop := fun b => F = true ∨ Stab B ρ e' w b ∨ w.heap.size ≤ b
  have hhe : Le h e' := fun i x hi => hee _ _ (hle _ _ hi)
  have hS : ∀ b, Stab B ρ e' w b → Stab B' ρ h w b := fun b hb => ⟨.inr (.inl hb), hb.2.1, fun m x hm => hb.2.2 m x (hhe _ _ hm)⟩
  have hvF : F = true → ∀ nm x, lk e nm = some x → lk h nm = none → Stab B' ρ h w (ρ nm) := fun hF nm x hnm hno =>
    ⟨.inl hF, hg.mem.block_lt (hee _ _ hnm), fun m y hm hq => by
      have := hg.mem.inj _ _ _ _ (hhe _ _ hm) (hee _ _ hnm) hq
      subst this; rw [hno] at hm; cases hm⟩
  have hlow : ∀ {S' : Nat → Prop}, (∀ b, Stab B ρ e' w b → S' b) → Evo (Stab B ρ e' w) S' w w := fun h => ⟨fun b hb => ⟨h b hb, rfl⟩, fun b n hb => hb⟩
  have hmem : Mem B' ρ (Nm h) h w := ⟨fun m x hm => ⟨by simp [Nm, hm], ((hg.mem.en m x (hhe _ _ hm)).2.restrict (entsIn_get hin m x hm)).mono (hlow hS) (fun n hn => ⟨hn, rfl⟩) rfl⟩,
    fun m m' x x' hm hm' hq => hg.mem.inj m m' x x' (hhe _ _ hm) (hhe _ _ hm') hq⟩
  obtain ⟨g1, g2, g3⟩ := vwL_get (F := F) hS (fun nm x hnm => (hg.mem.en nm x (hee _ _ hnm)).2) hvF all cs args' F hl1 hrl hvw id
  refine .enter hrun ?_
  rw [g2]
  refine (hF B' ρ w _ (fun b hb => .inr (.inr hb)) hmem (fun g x hgx => (hg.gl g x hgx).mono (hlow hS) NoNm (fun _ h => h.elim)) (by simp [g1, hl1]) (fun i y hi => ?_)).mono ?_
  · obtain ⟨c, h1, h2⟩ := g3 i y hi
    exact ⟨shape y c, by rw [List.getElem?_map, zip_get hi h1]; rfl, .one h2⟩
  · rintro e1 w' ⟨y, ρ1, rfl, hrv, hmm, hk⟩
    refine ⟨y, rfl, ?_⟩
    let ρ2 : Nat → Nat := fun n => if nb ≤ n ∧ n < nb + 16 then ρ1 n else ρ n
    have key2 : ∀ n, D n → ρ2 n = ρ n := fun n hn => if_neg (fun q => hD n q.1 q.2 hn)
    have hDh : ∀ n, Nm h n → D n := fun n hn => by
      obtain ⟨x, hx⟩ := Option.isSome_iff_exists.1 hn
      exact (hg.mem.en n x (hhe _ _ hx)).1
    have key1 : ∀ n, Nm h' n → ρ2 n = ρ1 n := fun n hn => by
      by_cases hq : nb ≤ n ∧ n < nb + 16
      · exact if_pos hq
      · rcases hnew n hn with h1 | h1
        · exact (if_neg hq).trans (hk.agree n h1 hn).symm
        · exact absurd h1 hq
    have hlk : ∀ m x, lk (ap (callDel h h') e') m = some x → lk h' m = some x ∨ (lk h' m = none ∧ lk h m = none ∧ lk e' m = some x) := by
      intro m x hm
      rw [lk_callDel] at hm
      cases h1 : lk h' m with
      | some y => rw [h1] at hm; left; simpa using hm
      | none =>
        rw [h1] at hm
        cases h2 : lk h m with
        | some y => rw [h2] at hm; simp at hm
        | none => rw [h2] at hm; right; exact ⟨rfl, rfl, by simpa using hm⟩
    have hkeepb : ∀ m x, lk h m = none → lk e' m = some x → w'.heap[ρ m]? = w.heap[ρ m]? := fun m x h1 h2 =>
      hk.others _ (hg.mem.block_lt h2) (fun n y hn hq => by
        have := hg.mem.inj _ _ _ _ (hhe _ _ hn) h2 hq
        subst this; rw [h1] at hn; cases hn)
    have hst : ∀ b, Stab B ρ e' w b → Stab B ρ2 (ap (callDel h h') e') w' b := by
      intro b hb
      have h1 := hk.evo.stable b (hS b hb)
      refine ⟨hb.1, h1.1.2.1, fun m x hm => ?_⟩
      rcases hlk m x hm with h2 | ⟨_, h3, h4⟩
      · rw [key1 m (by simp [Nm, h2])]; exact h1.1.2.2 m x h2
      · rw [key2 m (hg.mem.en m x h4).1]; exact hb.2.2 m x h4
    have hst2 : F = false → ∀ b, Stab B' ρ1 h' w' b → Stab B ρ2 (ap (callDel h h') e') w' b := by
      intro hFf b hb
      rcases hb.1 with h1 | h1 | h1
      · rw [hFf] at h1; cases h1
      · exact hst b h1
      · refine ⟨hg.big b h1, hb.2.1, fun m x hm => ?_⟩
        rcases hlk m x hm with h2 | ⟨_, h3, h4⟩
        · rw [key1 m (by simp [Nm, h2])]; exact hb.2.2 m x h2
        · rw [key2 m (hg.mem.en m x h4).1]
          have := hg.mem.block_lt h4
          omega
    have hevo : Evo (Stab B ρ e' w) (Stab B ρ2 (ap (callDel h h') e') w') w w' := ⟨fun b hb => ⟨hst b hb, (hk.evo.stable b (hS b hb)).2⟩, hk.evo.sized⟩
    have hag : ∀ n, D n → (D n ∨ Nm h' n) ∧ ρ2 n = ρ n := fun n hn => ⟨.inl hn, key2 n hn⟩
    have hag1 : ∀ n, Nm h' n → (D n ∨ Nm h' n) ∧ ρ2 n = ρ1 n := fun n hn => ⟨.inr hn, key1 n hn⟩
    have hlow2 : F = false → Evo (Stab B' ρ1 h' w') (Stab B ρ2 (ap (callDel h h') e') w') w' w' := fun q => ⟨fun b hb => ⟨hst2 q b hb, rfl⟩, fun b n hb => hb⟩
    have hself : ∀ S : Nat → Prop, Evo S S w' w' := fun S => Evo.refl w'
    refine ⟨ρ2, fun n => D n ∨ Nm h' n, fun n hn => ?_, ?_, ⟨fun m x hm => ?_, fun m m' x x' hm hm' hq => ?_⟩, hevo, hag, fun m x hm => ?_, hk.size, hk.os, hk.out, hk.tape, fun b hb hn => ?_⟩
    · rcases hn with h1 | h1
      · exact .inl h1
      · rcases hnew n h1 with h2 | h2
        · exact .inl (hDh n h2)
        · exact .inr h2
    · cases hF' : F with
      | true => exact (hrv.freed (hfree hF').1 (S' := Stab B ρ2 (ap (callDel h h') e') w')).mono (hself _) hag1
      | false => exact hrv.mono (hlow2 hF') hag1
    · rcases hlk m x hm with h2 | ⟨_, h3, h4⟩
      · refine ⟨.inr (by simp [Nm, h2]), ?_⟩
        rw [key1 m (by simp [Nm, h2])]
        have h5 := (hmm.en m x h2).2
        cases hF' : F with
        | true => exact (h5.freed (entsFree_get (hfree hF').2 m x h2) (S' := Stab B ρ2 (ap (callDel h h') e') w')).mono (hself _) hag1 rfl
        | false => exact h5.mono (hlow2 hF') hag1 rfl
      · have h5 := hg.mem.en m x h4
        refine ⟨.inl h5.1, ?_⟩
        rw [key2 m h5.1]
        exact h5.2.mono hevo hag (hkeepb m x h3 h4)
    · rcases hlk m x hm with h2 | ⟨_, h3, h4⟩ <;> rcases hlk m' x' hm' with h2' | ⟨_, h3', h4'⟩
      · rw [key1 m (by simp [Nm, h2]), key1 m' (by simp [Nm, h2'])] at hq
        exact hmm.inj m m' x x' h2 h2' hq
      · rw [key1 m (by simp [Nm, h2]), key2 m' (hg.mem.en m' x' h4').1] at hq
        have hlt := hg.mem.block_lt h4'
        rcases hk.fresh m x h2 with ⟨m0, x0, k0, ke⟩ | kf
        · have := hg.mem.inj _ _ _ _ (hhe _ _ k0) h4' (ke.symm.trans hq)
          subst this; rw [h3'] at k0; cases k0
        · omega
      · rw [key2 m (hg.mem.en m x h4).1, key1 m' (by simp [Nm, h2'])] at hq
        have hlt := hg.mem.block_lt h4
        rcases hk.fresh m' x' h2' with ⟨m0, x0, k0, ke⟩ | kf
        · have := hg.mem.inj _ _ _ _ (hhe _ _ k0) h4 (ke.symm.trans hq.symm)
          subst this; rw [h3] at k0; cases k0
        · omega
      · rw [key2 m (hg.mem.en m x h4).1, key2 m' (hg.mem.en m' x' h4').1] at hq
        exact hg.mem.inj m m' x x' h4 h4' hq
    · rcases hlk m x hm with h2 | ⟨_, h3, h4⟩
      · rw [key1 m (by simp [Nm, h2])]
        rcases hk.fresh m x h2 with ⟨m0, x0, k0, ke⟩ | kf
        · exact .inl ⟨m0, x0, hhe _ _ k0, ke⟩
        · exact .inr kf
      · rw [key2 m (hg.mem.en m x h4).1]
        exact .inl ⟨m, x, h4, rfl⟩
    · exact hk.others b hb (fun m x hm => hn m x (hhe _ _ hm))

theorem sound_call {P : Program} {G : Nat → Option AV} {t : Tms} {e : Ents} {nb : Nat} {dst : Option Tmp} {ty : TypeId} {pos : String} {after : Array Edge} {gd : Option (Nat × Bool)}
    {x : Operand} {xs : Array Operand} {ts : Array TypeId} {f : FuncId} {cap as args' : List AV} {h h' : Ents} {r : AV} {F : Bool}
    (hx : ev G t x = some (.fn (.func f) cap)) (hcap : ∀ l, cap ≠ .nilf :: l) (has : evL G t xs.toList = some as) (ht : isTupL (as ++ cap) = false) (hF : FnR P G f args' h r h') (hle : Le h e) (hcal : Callable P f)
    (hvw : Ok (vw.vwL e h (as ++ cap)) (args', F)) (hnew : ∀ n, Nm h' n → Nm h n ∨ (nb ≤ n ∧ n < nb + 16)) (hin : entsIn (Nm h) h) (hfree : F = true → r.free = true ∧ entsFree h' = true) :
    OpSound P G t e nb ⟨dst, .call { callee := .value x, args := xs, argTypes := ts }, ty, pos, after, gd⟩ r (callDel h h') := by
  refine sound_callX (all := as ++ cap) (fun B ρ D t' e' a w htt hg => ?_) hF hle hvw hnew hin hfree
  rw [isTupL_append, Bool.or_eq_false_iff] at ht
  obtain ⟨cs1, hl1, hv1, hr1⟩ := evL_sound hg htt has ht.1
  obtain ⟨cf, hcf, hrf⟩ := (ev_sound hg htt hx).inv (by simp)
  cases hrf with
  | fnb us hus => exact absurd rfl (hcap _)
  | fn us hus =>
    refine ⟨cs1 ++ (List.range cap.length).map us, by simp [hl1], ?_, ?_⟩
    · intro i y hi
      by_cases hlt : i < as.length
      · rw [List.getElem?_append_left hlt] at hi
        obtain ⟨c, h1, h2⟩ := hr1 i y hi
        exact ⟨c, by rw [List.getElem?_append_left (by omega)]; exact h1, h2⟩
      · rw [List.getElem?_append_right (by omega)] at hi
        refine ⟨us (i - as.length), ?_, hus _ _ hi⟩
        rw [List.getElem?_append_right (by omega), hl1, List.getElem?_map, List.getElem?_range (List.getElem?_eq_some_iff.1 hi).1]
        rfl
    · have e1 : xs.map a.eval = ((as.zip cs1).map fun p => shape p.1 p.2).toArray := by rw [← hv1, ← List.map_toArray, Array.toArray_toList]
      have e2 : (cap.zipIdx.map fun (x, i) => shape x (us i)) = (cap.zip ((List.range cap.length).map us)).map fun p => shape p.1 p.2 := zip_range cap us
      have e3 : ((as ++ cap).zip (cs1 ++ (List.range cap.length).map us)) = as.zip cs1 ++ cap.zip ((List.range cap.length).map us) := List.zip_append hl1.symm
      rw [e3, List.map_append, ← e2]
      have hcf' : a.eval x = Value.func (.func f) #[] (cap.zipIdx.map fun (x, i) => shape x (us i)).toArray := hcf
      simp only [execOp, resolve, hcf', Deferred.ofValue, Sem.run_bind, Sem.run_pure, Result.andThen_ok, invoke, hcal.run, e1]
      simp
/-- The same of a function that has its first arguments. -/
theorem sound_callB {P : Program} {G : Nat → Option AV} {t : Tms} {e : Ents} {nb : Nat} {dst : Option Tmp} {ty : TypeId} {pos : String} {after : Array Edge} {gd : Option (Nat × Bool)}
    {x : Operand} {xs : Array Operand} {ts : Array TypeId} {f : FuncId} {bnd as args' : List AV} {h h' : Ents} {r : AV} {F : Bool}
    (hx : ev G t x = some (.fn (.func f) (.nilf :: bnd))) (has : evL G t xs.toList = some as) (ht : isTupL (bnd ++ as) = false) (hF : FnR P G f args' h r h') (hle : Le h e) (hcal : Callable P f)
    (hvw : Ok (vw.vwL e h (bnd ++ as)) (args', F)) (hnew : ∀ n, Nm h' n → Nm h n ∨ (nb ≤ n ∧ n < nb + 16)) (hin : entsIn (Nm h) h) (hfree : F = true → r.free = true ∧ entsFree h' = true) :
    OpSound P G t e nb ⟨dst, .call { callee := .value x, args := xs, argTypes := ts }, ty, pos, after, gd⟩ r (callDel h h') := by
  refine sound_callX (all := bnd ++ as) (fun B ρ D t' e' a w htt hg => ?_) hF hle hvw hnew hin hfree
  rw [isTupL_append, Bool.or_eq_false_iff] at ht
  obtain ⟨cs1, hl1, hv1, hr1⟩ := evL_sound hg htt has ht.2
  obtain ⟨cf, hcf, hrf⟩ := (ev_sound hg htt hx).inv (by simp)
  cases hrf with
  | fn us hus hne => exact absurd rfl (hne _)
  | fnb us hus =>
    refine ⟨(List.range bnd.length).map us ++ cs1, by simp [hl1], ?_, ?_⟩
    · intro i y hi
      by_cases hlt : i < bnd.length
      · rw [List.getElem?_append_left hlt] at hi
        refine ⟨us i, ?_, hus _ _ hi⟩
        rw [List.getElem?_append_left (by simpa using hlt), List.getElem?_map, List.getElem?_range hlt]
        rfl
      · rw [List.getElem?_append_right (by omega)] at hi
        obtain ⟨c, h1, h2⟩ := hr1 _ y hi
        exact ⟨c, by rw [List.getElem?_append_right (by simp; omega)]; simpa using h1, h2⟩
    · have e1 : xs.map a.eval = ((as.zip cs1).map fun p => shape p.1 p.2).toArray := by rw [← hv1, ← List.map_toArray, Array.toArray_toList]
      have e2 : (bnd.zipIdx.map fun (x, i) => shape x (us i)) = (bnd.zip ((List.range bnd.length).map us)).map fun p => shape p.1 p.2 := zip_range bnd us
      have e3 : ((bnd ++ as).zip ((List.range bnd.length).map us ++ cs1)) = bnd.zip ((List.range bnd.length).map us) ++ as.zip cs1 := List.zip_append (by simp)
      rw [e3, List.map_append, ← e2]
      have hcf' : a.eval x = Value.func (.func f) (bnd.zipIdx.map fun (x, i) => shape x (us i)).toArray #[] := hcf
      simp only [execOp, resolve, hcf', Deferred.ofValue, Sem.run_bind, Sem.run_pure, Result.andThen_ok, invoke, hcal.run, e1]
      simp

end Sx

/- Operations that only reckon. -/
set_option linter.unusedVariables false
set_option linter.unusedSimpArgs false
namespace Sx
open Go

/-- Two integers of one kind. -/
def intF (op : BinOp) (k : IntKind) (a b : Int) : Q AV :=
  match op with
  | .add => ret (.int k (k.wrap (a + b)))
  | .sub => ret (.int k (k.wrap (a - b)))
  | .mul => ret (.int k (k.wrap (a * b)))
  | .quo => req (b ≠ 0) (ret (.int k (k.wrap (a.tdiv b))))
  | .rem => req (b ≠ 0) (ret (.int k (a.tmod b)))
  | .and => ret (.int k (bits .and k a b))
  | .or => ret (.int k (bits .or k a b))
  | .xor => ret (.int k (bits .xor k a b))
  | .andNot => ret (.int k (bits .andNot k a b))
  | .eql => ret (.bool (a == b))
  | .neq => ret (.bool (a != b))
  | .lss => ret (.bool (decide (a < b)))
  | .leq => ret (.bool (decide (a ≤ b)))
  | .gtr => ret (.bool (decide (b < a)))
  | .geq => ret (.bool (decide (b ≤ a)))
  | _ => none
def shiftF (op : BinOp) (k : IntKind) (a b : Int) : Q AV :=
  match op with
  | .shl => req (0 ≤ b) (ret (.int k (k.wrap (a * 2 ^ (min b.toNat k.bits)))))
  | .shr => req (0 ≤ b) (ret (.int k (a.fdiv (2 ^ (min b.toNat k.bits)))))
  | _ => none
def strF (op : BinOp) (x y : ByteArray) : Q AV :=
  match op with
  | .add => req (x.size + y.size ≤ 9223372036854775807) (ret (.str (x ++ y)))
  | .eql => ret (.bool (x.toList == y.toList))
  | .neq => ret (.bool !(x.toList == y.toList))
  | .lss => ret (.bool (Op.bytesLess x.toList y.toList))
  | .leq => ret (.bool (Op.bytesLess x.toList y.toList || x.toList == y.toList))
  | .gtr => ret (.bool !(Op.bytesLess x.toList y.toList || x.toList == y.toList))
  | .geq => ret (.bool !(Op.bytesLess x.toList y.toList))
  | _ => none
def binF (op : BinOp) (a b : AV) : Q AV :=
  match a, b with
  | .int k x, .int k' y =>
    match op with
    | .shl => shiftF .shl k x y
    | .shr => shiftF .shr k x y
    | op => req (k = k') (intF op k x y)
  | .str x, .str y => strF op x y
  | _, _ => none

section
variable {P : Program} {G : Nat → Option AV} {t : Tms} {e : Ents} {nb : Nat} {dst : Option Tmp} {ty : TypeId} {pos : String} {after : Array Edge} {gd : Option (Nat × Bool)}

theorem RV.int_inv {ρ : Nat → Nat} {S : Nat → Prop} {w : World} {N : Nat → Prop} {k : IntKind} {n : Int} {v : Value} (h : RV ρ S w N (.int k n) v) : v = .int k n := by
  cases h with
  | one h => cases h; rfl
theorem RV.str_inv {ρ : Nat → Nat} {S : Nat → Prop} {w : World} {N : Nat → Prop} {s : ByteArray} {v : Value} (h : RV ρ S w N (.str s) v) : v = .string s := by
  cases h with
  | one h => cases h; rfl
theorem RV.bool_inv {ρ : Nat → Nat} {S : Nat → Prop} {w : World} {N : Nat → Prop} {b : Bool} {v : Value} (h : RV ρ S w N (.bool b) v) : v = .bool b := by
  cases h with
  | one h => cases h; rfl
theorem RV.ofInt {ρ : Nat → Nat} {S : Nat → Prop} {w : World} {N : Nat → Prop} {k : IntKind} {n : Int} : RV ρ S w N (.int k n) (.int k n) := .one (cs := [_]) .int
theorem RV.ofBool {ρ : Nat → Nat} {S : Nat → Prop} {w : World} {N : Nat → Prop} {b : Bool} : RV ρ S w N (.bool b) (.bool b) := .one (cs := [_]) .bool
theorem RV.ofStr {ρ : Nat → Nat} {S : Nat → Prop} {w : World} {N : Nat → Prop} {s : ByteArray} : RV ρ S w N (.str s) (.string s) := .one (cs := [_]) .str

theorem eqGuard_int (op : BinOp) (T : TypeId) (x y : Operand) (k k' : IntKind) (a b : Int) (w : World) : (eqGuard op T x y (.int k a) (.int k' b)).run P w = .ok () w := by
  unfold eqGuard; cases op <;> simp
theorem eqGuard_str (op : BinOp) (T : TypeId) (x y : Operand) (a b : ByteArray) (w : World) : (eqGuard op T x y (.string a) (.string b)).run P w = .ok () w := by
  unfold eqGuard; cases op <;> simp

theorem intF_run {op : BinOp} {k : IntKind} {a b : Int} {v : AV} (hop : op ≠ .shl ∧ op ≠ .shr) (T : TypeId) (w : World) (h : Ok (intF op k a b) v) :
    ∃ u, (binOp op T (.int k a) (.int k b)).run P w = .ok u w ∧ ∀ ρ S N, RV ρ S w N v u := by
  cases op <;> simp only [intF] at h
  case shl => exact absurd rfl hop.1
  case shr => exact absurd rfl hop.2
  case quo => obtain ⟨h0, h⟩ := h.req; have := h.ret; subst this; exact ⟨_, by simp [binOp, Op.intDiv, h0], fun _ _ _ => .ofInt⟩
  case rem => obtain ⟨h0, h⟩ := h.req; have := h.ret; subst this; exact ⟨_, by simp [binOp, Op.intDiv, h0], fun _ _ _ => .ofInt⟩
  case add => have := h.ret; subst this; exact ⟨_, by simp [binOp, Op.intArith], fun _ _ _ => .ofInt⟩
  case sub => have := h.ret; subst this; exact ⟨_, by simp [binOp, Op.intArith], fun _ _ _ => .ofInt⟩
  case mul => have := h.ret; subst this; exact ⟨_, by simp [binOp, Op.intArith], fun _ _ _ => .ofInt⟩
  case and => have := h.ret; subst this; exact ⟨_, by simp [binOp, Op.intBits, bits], fun _ _ _ => .ofInt⟩
  case or => have := h.ret; subst this; exact ⟨_, by simp [binOp, Op.intBits, bits], fun _ _ _ => .ofInt⟩
  case xor => have := h.ret; subst this; exact ⟨_, by simp [binOp, Op.intBits, bits], fun _ _ _ => .ofInt⟩
  case andNot => have := h.ret; subst this; exact ⟨_, by simp [binOp, Op.intBits, bits], fun _ _ _ => .ofInt⟩
  case eql => have := h.ret; subst this; exact ⟨_, by simp [binOp, Op.intCmp], fun _ _ _ => .ofBool⟩
  case neq => have := h.ret; subst this; exact ⟨_, by simp [binOp, Op.intCmp], fun _ _ _ => .ofBool⟩
  case lss => have := h.ret; subst this; exact ⟨_, by simp [binOp, Op.intCmp], fun _ _ _ => .ofBool⟩
  case leq => have := h.ret; subst this; exact ⟨_, by simp [binOp, Op.intCmp], fun _ _ _ => .ofBool⟩
  case gtr => have := h.ret; subst this; exact ⟨_, by simp [binOp, Op.intCmp], fun _ _ _ => .ofBool⟩
  case geq => have := h.ret; subst this; exact ⟨_, by simp [binOp, Op.intCmp], fun _ _ _ => .ofBool⟩
  all_goals exact h.none.elim

theorem binF_run {op : BinOp} {a b v : AV} {x y : Value} {ρ : Nat → Nat} {S : Nat → Prop} {w : World} {N : Nat → Prop} (hx : RV ρ S w N a x) (hy : RV ρ S w N b y) (X Y : Operand) (T : TypeId) (h : Ok (binF op a b) v) :
    ∃ u, (do eqGuard op T X Y x y; binOp op T x y : Sem Value).run P w = .ok u w ∧ RV ρ S w N v u := by
  unfold binF at h
  split at h
  · next k a' k' b' =>
    obtain rfl := hx.int_inv
    obtain rfl := hy.int_inv
    split at h
    · simp only [shiftF] at h
      obtain ⟨h0, h⟩ := h.req
      have := h.ret; subst this
      exact ⟨_, by simp [eqGuard_int, binOp, Op.shift, Int.not_lt.2 h0], .ofInt⟩
    · simp only [shiftF] at h
      obtain ⟨h0, h⟩ := h.req
      have := h.ret; subst this
      exact ⟨_, by simp [eqGuard_int, binOp, Op.shift, Int.not_lt.2 h0], .ofInt⟩
    · next h1 h2 =>
      obtain ⟨h0, h'⟩ := h.req
      subst h0
      obtain ⟨u, hu, hr⟩ := intF_run (P := P) ⟨fun q => h1 q, fun q => h2 q⟩ T w h'
      exact ⟨u, by simp [eqGuard_int, hu], hr _ _ _⟩
  · next a' b' =>
    obtain rfl := hx.str_inv
    obtain rfl := hy.str_inv
    cases op <;> simp only [strF] at h
    case add =>
      obtain ⟨h0, h⟩ := h.req
      have := h.ret; subst this
      have h1 : ¬ ((a'.size + b'.size : Nat) : Int) > IntKind.i64.max := by
        have : IntKind.i64.max = 9223372036854775807 := rfl
        omega
      exact ⟨_, by simp only [Sem.run_bind, eqGuard_str, Result.andThen_ok, binOp, Op.stringOp, if_neg h1, Sem.run_pure], .ofStr⟩
    case eql => have := h.ret; subst this; exact ⟨_, by simp [eqGuard_str, binOp, Op.stringOp], .ofBool⟩
    case neq => have := h.ret; subst this; exact ⟨_, by simp [eqGuard_str, binOp, Op.stringOp], .ofBool⟩
    case lss => have := h.ret; subst this; exact ⟨_, by simp [eqGuard_str, binOp, Op.stringOp], .ofBool⟩
    case leq => have := h.ret; subst this; exact ⟨_, by simp [eqGuard_str, binOp, Op.stringOp], .ofBool⟩
    case gtr => have := h.ret; subst this; exact ⟨_, by simp [eqGuard_str, binOp, Op.stringOp], .ofBool⟩
    case geq => have := h.ret; subst this; exact ⟨_, by simp [eqGuard_str, binOp, Op.stringOp], .ofBool⟩
    all_goals exact h.none.elim
  · exact h.none.elim

theorem sound_bin {op : BinOp} {T yt : TypeId} {x y : Operand} {a b v : AV} (hx : ev G t x = some a) (hy : ev G t y = some b) (h : Ok (binF op a b) v) : OpSound P G t e nb ⟨dst, .binOp op T x y yt, ty, pos, after, gd⟩ v [] := by
  intro B ρ D t' e' c w ht _ hg _
  obtain ⟨u, hu, hr⟩ := binF_run (P := P) (ev_sound hg ht hx) (ev_sound hg ht hy) x y T h
  refine .value (x := u) (w' := w) ?_ (Post.pure hg.mem hr)
  simp only [execOp]
  rw [Sem.run_bind, hu]
  rfl

def unF (op : UnOp) (a : AV) : Q AV :=
  match op, a with
  | .neg, .int k n => ret (.int k (k.wrap (0 - n)))
  | .xor, .int k n => ret (.int k (bits .xor k (if k.signed then -1 else k.max) n))
  | .not, .bool b => ret (.bool !b)
  | _, _ => none
theorem sound_un {op : UnOp} {T : TypeId} {x : Operand} {a v : AV} (hx : ev G t x = some a) (h : Ok (unF op a) v) : OpSound P G t e nb ⟨dst, .unOp op T x, ty, pos, after, gd⟩ v [] := by
  intro B ρ D t' e' c w ht _ hg _
  have hx := ev_sound hg ht hx
  unfold unF at h
  split at h
  · have := h.ret; subst this
    exact .value (w' := w) (by simp only [execOp, hx.int_inv, Op.unary, Op.intArith, Sem.run_bind, Sem.run_pure, Result.andThen_ok]) (Post.pure hg.mem .ofInt)
  · have := h.ret; subst this
    exact .value (w' := w) (by simp only [execOp, hx.int_inv, Op.unary, intBits_xor, Sem.run_bind, Sem.run_pure, Result.andThen_ok]) (Post.pure hg.mem .ofInt)
  · have := h.ret; subst this
    exact .value (w' := w) (by simp only [execOp, hx.bool_inv, Op.unary, Sem.run_bind, Sem.run_pure, Result.andThen_ok]) (Post.pure hg.mem .ofBool)
  · exact h.none.elim

/-- An integer of another kind. -/
theorem sound_conv_int {T1 T2 : Nat} {t1 t2 : TI} {x : Operand} {k k0 k' : IntKind} {n : Int} (h1 : TyOK P T1 t1) (h2 : TyOK P T2 t2) (hk : t1.kd = .int k0) (hk2 : t2.kd = .int k') (hx : ev G t x = some (.int k n)) :
    OpSound P G t e nb ⟨dst, .convert T1 T2 x, ty, pos, after, gd⟩ (.int k' (k'.wrap n)) [] := by
  intro B ρ D t' e' c w ht _ hg _
  have hx := (ev_sound hg ht hx).int_inv
  exact .value (w' := w) (by simp only [execOp, hx, convert, Sem.run_bind, run_underlying (h1.uint hk), run_underlying (h2.uint hk2), Result.andThen_ok, Conv.intToInt, Sem.run_pure]) (Post.pure hg.mem .ofInt)

/-! ### Fields and elements -/

theorem addr_add (b o n : Nat) : (⟨b, o, none⟩ : Addr).add n = ⟨b, o + n, none⟩ := by
  unfold Addr.add
  split
  · next h => subst h; rfl
  · rfl


theorem run_underlying' {T : Nat} {d : TypeDesc} (h : P.underlying T = some d) (w : World) : (underlying T).run P w = .ok d w := run_underlying h w

/-- A field of what is pointed at, or of a value. -/
def fldF (tt : Nat → Option TI) (ti : TI) (f : Nat) (p : AV) : Q AV :=
  match ti.kd, p with
  | .strct fs, .ptr nm o i sz => opt fs[f]? fun q => opt (tt q.2) fun tf => req (tf.size ≠ 0) (ret (.ptr nm (o + q.1) i sz))
  | .strct fs, .pel v => opt fs[f]? fun q => opt (tt q.2) fun tf => req (tf.size ≠ 0) (opt (dropC (comps v) q.1) fun ds => opt (takeC ds tf.size) fun es => ret (.pel (.agg es)))
  | _, _ => none

theorem field_get {fs : List (Nat × Nat)} {gs : Array Field} {f : Nat} {q : Nat × Nat} (h : gs.toList.map (fun f => (f.offset, f.type)) = fs) (hf : fs[f]? = some q) : ∃ g, gs[f]? = some g ∧ g.offset = q.1 ∧ g.type = q.2 := by
  subst h
  rw [List.getElem?_map, Option.map_eq_some_iff] at hf
  obtain ⟨g, hg, rfl⟩ := hf
  exact ⟨g, by simpa using hg, rfl, rfl⟩

theorem sound_fieldAddr {tt : Nat → Option TI} (hTT : TT P tt) {T : Nat} {ti : TI} {x : Operand} {f : Nat} {p v : AV} (hT : TyOK P T ti) (hx : ev G t x = some p) (h : Ok (fldF tt ti f p) v) :
    OpSound P G t e nb ⟨dst, .fieldAddr T x f, ty, pos, after, gd⟩ v [] := by
  intro B ρ D t' e' c w ht _ hg _
  have hx := ev_sound hg ht hx
  cases hk : ti.kd <;> cases p <;> simp only [fldF, hk] at h <;> first | exact h.none.elim | skip
  · rename_i fs nm o i sz _
    obtain ⟨q, hq, h⟩ := h.opt
    obtain ⟨tf, htf, h⟩ := h.opt
    obtain ⟨hz, h⟩ := h.req
    have := h.ret; subst this
    obtain ⟨gs, hu, hgs⟩ := hT.ustruct hk
    obtain ⟨g, hg1, hg2, hg3⟩ := field_get hgs hq
    obtain ⟨cs, hv, hr⟩ := hx.inv (by simp)
    cases hr with
    | ptr hn =>
      have hs := (hTT _ _ htf).run_size (P := P) w
      refine .value (x := .pointer (some ⟨ρ nm, o + q.1 + i * sz, none⟩)) (w' := w) ?_ (Post.pure hg.mem (.one (cs := [_]) (.ptr hn)))
      have hv' : c.eval x = .pointer (some ⟨ρ nm, o + i * sz, none⟩) := hv
      have hadd : (⟨ρ nm, o + i * sz, none⟩ : Addr).add g.offset = ⟨ρ nm, o + q.1 + i * sz, none⟩ := by rw [addr_add, hg2]; congr 1; omega
      simp only [execOp, hv', Instr.fieldAt, Sem.run_bind, run_underlying hu, Result.andThen_ok, hg1, Instr.sureAddr, Sem.run_pure, fieldPlace, hg3, hs, if_neg hz, hadd]
  · rename_i fs v0 _
    obtain ⟨q, hq, h⟩ := h.opt
    obtain ⟨tf, htf, h⟩ := h.opt
    obtain ⟨hz, h⟩ := h.req
    obtain ⟨ds, hds, h⟩ := h.opt
    obtain ⟨es, hes, h⟩ := h.opt
    have := h.ret; subst this
    obtain ⟨gs, hu, hgs⟩ := hT.ustruct hk
    obtain ⟨g, hg1, hg2, hg3⟩ := field_get hgs hq
    obtain ⟨cs, hv, hr⟩ := hx.inv (by simp)
    cases hr with
    | pel hr hs0 hc =>
      rename_i b o vals
      have hs := (hTT _ _ htf).run_size (P := P) w
      obtain ⟨k1, k2⟩ := hr.comps.drop hds
      obtain ⟨k3, k4⟩ := k1.take hes
      refine .value (x := .pointer (some ⟨b, o + q.1, none⟩)) (w' := w) ?_ (Post.pure hg.mem (.one (cs := [_]) (.pel k3 hs0 (fun j u hj => ?_))))
      · have hv' : c.eval x = .pointer (some ⟨b, o, none⟩) := hv
        have hadd : (⟨b, o, none⟩ : Addr).add g.offset = ⟨b, o + q.1, none⟩ := by rw [addr_add, hg2]
        simp only [execOp, hv', Instr.fieldAt, Sem.run_bind, run_underlying hu, Result.andThen_ok, hg1, Instr.sureAddr, Sem.run_pure, fieldPlace, hg3, hs, if_neg hz, hadd]
      · rw [List.getElem?_take] at hj
        split at hj
        · rw [List.getElem?_drop] at hj
          rw [Nat.add_assoc]
          exact hc _ _ hj
        · cases hj

/-- A part of cells, at a type. -/
theorem part_run {T : Nat} {ti : TI} (hT : TyOK P T ti) {ρ : Nat → Nat} {S : Nat → Prop} {w : World} {N : Nat → Prop} {cs : List AV} {vals : List Value} {o i : Nat} {v : AV}
    (h : RC ρ S w N (.agg cs) vals) (hl : Ok (ldC ti cs o i) v) : ∃ x, RV ρ S w N v x ∧ (part T vals.toArray (o + i)).run P w = .ok x w := by
  unfold ldC at hl
  split at hl
  · next hag =>
    obtain ⟨h0, hl1⟩ := hl.req
    subst h0
    obtain ⟨ds, hd, hl2⟩ := hl1.opt
    obtain ⟨es, he, hk⟩ := hl2.opt
    have := hk.ret; subst this
    obtain ⟨h1, hle⟩ := h.drop hd
    obtain ⟨h2, hle2⟩ := h1.take he
    refine ⟨_, .one h2, ?_⟩
    simp only [part, Sem.run_bind, hT.run_agg, hag, Result.andThen_ok, if_true, hT.run_size, Sem.run_pure, Nat.add_zero, shape, AV.isAgg, cond_true]
    congr 2
    apply Array.toList_inj.1
    simp [List.take_drop]
  · next hag =>
    obtain ⟨u, hv, hg, hr⟩ := h.ldS hl
    refine ⟨u, ?_, ?_⟩
    · have := RV.one hr
      rwa [shape_one hv] at this
    · have hag : ti.kd.agg = false := by simpa using hag
      simp [part, hT.run_agg, hag, hg]

theorem sound_field {tt : Nat → Option TI} (hTT : TT P tt) {T : Nat} {ti : TI} {x : Operand} {f : Nat} {cs : List AV} {fs : List (Nat × Nat)} {q : Nat × Nat} {tf : TI} {v : AV} (hT : TyOK P T ti) (hk : ti.kd = .strct fs) (hq : fs[f]? = some q) (htf : tt q.2 = some tf)
    (hx : ev G t x = some (.agg cs)) (h : Ok (ldC tf cs q.1 0) v) : OpSound P G t e nb ⟨dst, .field T x f, ty, pos, after, gd⟩ v [] := by
  intro B ρ D t' e' c w ht _ hg _
  obtain ⟨vals, hv, hr⟩ := (ev_sound hg ht hx).inv (by simp)
  obtain ⟨gs, hu, hgs⟩ := hT.ustruct hk
  obtain ⟨g, hg1, hg2, hg3⟩ := field_get hgs hq
  obtain ⟨y, h1, h2⟩ := part_run (P := P) (hTT _ _ htf) hr h
  refine .value (x := y) (w' := w) ?_ (Post.pure hg.mem h1)
  have hv' : c.eval x = .agg vals.toArray := hv
  simp only [Nat.add_zero] at h2
  simp only [execOp, hv', Instr.field, Sem.run_bind, run_underlying hu, Result.andThen_ok, hg1, asAgg, Sem.run_pure, hg2, hg3, h2]

end

end Sx

/- Elements and slices. -/
set_option linter.unusedVariables false
set_option linter.unusedSimpArgs false
namespace Sx
open Go

def Kd.isInt : Kd → Bool
  | .int _ => true
  | _ => false

/-- The address of an element. -/
def ixA (ti tf : TI) (p : AV) (j : Int) : Q AV :=
  match ti.kd, p with
  | .arr n _, .ptr nm o i sz => req (i = 0 ∧ 0 ≤ j ∧ j < n) (if tf.size = 1 ∧ tf.kd.isInt = true then ret (.ptr nm o j.toNat 1) else ret (.ptr nm (o + j.toNat * tf.size) 0 1))
  | .arr n _, .pel v => req (0 ≤ j ∧ j < n ∧ tf.size = 1 ∧ tf.kd.agg = false) (bnd (if tf.kd.isInt = true then ldS (comps v) 0 j.toNat else ldS (comps v) j.toNat 0) fun x => ret (.pel x))
  | .slice _, .sl nm sz off len => req (sz = tf.size ∧ 0 ≤ j ∧ j < len) (ret (.ptr nm 0 (off + j.toNat) sz))
  | .slice _, .lstI k xs => req (tf.size = 1 ∧ 0 ≤ j ∧ j < xs.length) (ret (.pel (.int k (xs.getD j.toNat 0))))
  | .slice _, .lstS ss => req (tf.size = 1 ∧ 0 ≤ j ∧ j < ss.length) (ret (.pel (.str (ss.getD j.toNat .empty))))
  | .slice _, .lst sz l => req (sz = tf.size ∧ 0 ≤ j ∧ j < l.length) (ret (.pel (l.getD j.toNat default)))
  | _, _ => none

section
variable {P : Program} {G : Nat → Option AV} {t : Tms} {e : Ents} {nb : Nat} {dst : Option Tmp} {ty : TypeId} {pos : String} {after : Array Edge} {gd : Option (Nat × Bool)}

def Kd.elem : Kd → Nat
  | .arr _ e => e
  | .slice e => e
  | _ => 0

theorem sound_indexAddr {T : Nat} {ti tf : TI} {x y : Operand} {k : IntKind} {j : Int} {p v : AV} (hT : TyOK P T ti) (hF : TyOK P ti.kd.elem tf) (hx : ev G t x = some p) (hy : ev G t y = some (.int k j)) (h : Ok (ixA ti tf p j) v) :
    OpSound P G t e nb ⟨dst, .indexAddr T x y, ty, pos, after, gd⟩ v [] := by
  intro B ρ D t' e' c w ht _ hg _
  have hx := ev_sound hg ht hx
  have hy := (ev_sound hg ht hy).int_inv
  have hs := hF.run_size (P := P) w
  -- of an array
  have arr : ∀ (n el b o : Nat), ti.kd = .arr n el → c.eval x = .pointer (some ⟨b, o, none⟩) → 0 ≤ j → j < n → (execOp c.eval ⟨dst, .indexAddr T x y, ty, pos, after, gd⟩).run P w = .ok (.value (.pointer (some ⟨b, o + j.toNat * tf.size, none⟩))) w := by
    intro n el b o hk h1 h2 h3
    rw [hk] at hs
    simp only [Kd.elem] at hs
    simp only [execOp, hy, h1, Instr.indexAt, asIntOf, Instr.sureAddr, Sem.run_bind, Sem.run_pure, Result.andThen_ok, run_underlying (hT.uarr hk)]
    rw [if_pos ⟨h2, h3⟩]
    simp only [Sem.run_bind, Sem.run_pure, Result.andThen_ok, hs, addr_add]
  have sli : ∀ (el : Nat) (b : Addr) (len cap : Nat), ti.kd = .slice el → c.eval x = .slice (some b) len cap → 0 ≤ j → j < len → (execOp c.eval ⟨dst, .indexAddr T x y, ty, pos, after, gd⟩).run P w = .ok (.value (.pointer (some (b.add (j.toNat * tf.size))))) w := by
    intro el b len cap hk h1 h2 h3
    rw [hk] at hs
    simp only [Kd.elem] at hs
    simp only [execOp, hy, h1, Instr.indexAt, asIntOf, Sem.run_bind, Sem.run_pure, Result.andThen_ok, run_underlying (hT.uslice hk)]
    rw [if_pos ⟨h2, h3⟩]
    simp only [Sem.run_bind, Sem.run_pure, Result.andThen_ok, hs]
  cases hk : ti.kd <;> cases p <;> simp only [ixA, hk] at h <;> first | exact h.none.elim | skip
  · -- a slice of one's own
    rename_i el nm sz off len _
    obtain ⟨⟨h1, h2, h3⟩, h⟩ := h.req
    have := h.ret; subst this
    obtain ⟨cs, hv, hr⟩ := hx.inv (by simp)
    cases hr with
    | sl hn ha hl hm hb hc =>
      rename_i cap a c0
      rcases ha with ha | ⟨h0, _, _⟩
      · subst ha
        refine .value (sli el _ len cap hk hv h2 h3) (Post.pure hg.mem ?_)
        rw [addr_add, ← h1]
        have := RV.one (RC.ptr (ρ := ρ) (S := Stab B ρ e' w) (w := w) (o := 0) (i := off + j.toNat) (sz := sz) hn)
        rw [Nat.zero_add, Nat.add_mul] at this
        exact this
      · omega
  · rename_i el k xs _
    obtain ⟨⟨h1, h2, h3⟩, h⟩ := h.req
    have := h.ret; subst this
    obtain ⟨cs, hv, hr⟩ := hx.inv (by simp)
    cases hr with
    | lstI hl hm hc =>
      rename_i a cap
      have hlt : j.toNat < xs.length := by omega
      obtain ⟨b, o, rfl, hS, hcell⟩ := hc j.toNat xs[j.toNat] (List.getElem?_eq_getElem hlt)
      refine .value (sli el _ _ cap hk hv h2 h3) (Post.pure hg.mem ?_)
      rw [addr_add, h1, Nat.mul_one]
      refine .one (cs := [_]) (.pel (cs := [_]) .int hS (fun i u hi => ?_))
      cases i with
      | zero => simp at hi; subst hi; simpa [List.getElem?_eq_getElem hlt] using hcell
      | succ i => simp at hi
  · rename_i el ss _
    obtain ⟨⟨h1, h2, h3⟩, h⟩ := h.req
    have := h.ret; subst this
    obtain ⟨cs, hv, hr⟩ := hx.inv (by simp)
    cases hr with
    | lstS hl hm hc =>
      rename_i a cap
      have hlt : j.toNat < ss.length := by omega
      obtain ⟨b, o, rfl, hS, hcell⟩ := hc j.toNat ss[j.toNat] (List.getElem?_eq_getElem hlt)
      refine .value (sli el _ _ cap hk hv h2 h3) (Post.pure hg.mem ?_)
      rw [addr_add, h1, Nat.mul_one]
      refine .one (cs := [_]) (.pel (cs := [_]) .str hS (fun i u hi => ?_))
      cases i with
      | zero => simp at hi; subst hi; simpa [List.getElem?_eq_getElem hlt] using hcell
      | succ i => simp at hi
  · rename_i el sz l _
    obtain ⟨⟨h1, h2, h3⟩, h⟩ := h.req
    have := h.ret; subst this
    obtain ⟨cs, hv, hr⟩ := hx.inv (by simp)
    cases hr with
    | lst vs hl hm hr hc =>
      rename_i a cap
      have hlt : j.toNat < l.length := by omega
      have hget : l[j.toNat]? = some (l.getD j.toNat default) := by simp [List.getElem?_eq_getElem hlt]
      obtain ⟨hz, b, o, rfl, hS, hcell⟩ := hc j.toNat _ hget
      refine .value (sli el _ _ cap hk hv h2 h3) (Post.pure hg.mem ?_)
      rw [addr_add, ← h1]
      exact .one (cs := [_]) (.pel (hr _ _ hget) hS hcell)
  · -- an array of one's own
    rename_i n el nm o i sz _
    obtain ⟨⟨h0, h2, h3⟩, h'⟩ := h.req
    clear h
    subst h0
    obtain ⟨cs, hv, hr⟩ := hx.inv (by simp)
    cases hr with
    | ptr hn =>
      have hv' : c.eval x = .pointer (some ⟨ρ nm, o, none⟩) := by simpa [shape, AV.isAgg] using hv
      refine .value (arr n el _ _ hk hv' h2 h3) (Post.pure hg.mem ?_)
      split at h'
      · next h1 =>
        have := h'.ret; subst this
        rw [h1.1]
        exact .one (cs := [_]) (.ptr hn)
      · have := h'.ret; subst this
        have := RV.one (RC.ptr (ρ := ρ) (S := Stab B ρ e' w) (w := w) (o := o + j.toNat * tf.size) (i := 0) (sz := 1) hn)
        simpa [shape, AV.isAgg] using this
  · rename_i n el v0 _
    obtain ⟨⟨h2, h3, h1, hag⟩, h⟩ := h.req
    obtain ⟨z, hz, h⟩ := h.bnd
    have := h.ret; subst this
    obtain ⟨cs, hv, hr⟩ := hx.inv (by simp)
    cases hr with
    | pel hr hs0 hc =>
      rename_i b o vals
      have hv' : c.eval x = .pointer (some ⟨b, o, none⟩) := hv
      refine .value (arr n el _ _ hk hv' h2 h3) (Post.pure hg.mem ?_)
      rw [h1, Nat.mul_one]
      have : ∃ u, vals[j.toNat]? = some u ∧ RC ρ (Stab B ρ e' w) w NoNm z [u] := by
        split at hz
        · obtain ⟨u, _, g1, g2⟩ := hr.comps.ldS hz; exact ⟨u, by simpa using g1, g2⟩
        · obtain ⟨u, _, g1, g2⟩ := hr.comps.ldS hz; exact ⟨u, by simpa using g1, g2⟩
      obtain ⟨u, g1, g2⟩ := this
      refine .one (cs := [_]) (.pel g2 hs0 (fun i u' hi => ?_))
      cases i with
      | zero => simp at hi; subst hi; exact hc _ _ g1
      | succ i => simp at hi

/-- The byte of a string. -/
def bat (s : ByteArray) (j : Nat) : Int := ((s.data.toList.getD j 0).toNat : Int)

def ixV (ti tf : TI) (p : AV) (j : Int) : Q AV :=
  match ti.kd, p with
  | .arr n _, .agg cs => req (0 ≤ j ∧ j < n) (if tf.kd.isInt = true then req (tf.size = 1) (ldC tf cs 0 j.toNat) else ldC tf cs (j.toNat * tf.size) 0)
  | .str, .str s => req (0 ≤ j ∧ j < s.size) (ret (.int .u8 (bat s j.toNat)))
  | _, _ => none

theorem sound_index {T : Nat} {ti tf : TI} {x y : Operand} {k : IntKind} {j : Int} {p v : AV} (hT : TyOK P T ti) (hF : ti.kd = .str ∨ TyOK P ti.kd.elem tf) (hx : ev G t x = some p) (hy : ev G t y = some (.int k j)) (h : Ok (ixV ti tf p j) v) :
    OpSound P G t e nb ⟨dst, .index T x y, ty, pos, after, gd⟩ v [] := by
  intro B ρ D t' e' c w ht _ hg _
  have hx := ev_sound hg ht hx
  have hy := (ev_sound hg ht hy).int_inv
  cases hk : ti.kd <;> cases p <;> simp only [ixV, hk] at h <;> first | exact h.none.elim | skip
  · rename_i s _
    obtain ⟨⟨h2, h3⟩, h⟩ := h.req
    have := h.ret; subst this
    have hx := hx.str_inv
    refine .value (x := .int .u8 (bat s j.toNat)) (w' := w) ?_ (Post.pure hg.mem .ofInt)
    have hlt : j.toNat < s.size := by omega
    have hb : s[j.toNat]? = some s[j.toNat] := getElem?_pos s j.toNat hlt
    have hq : (s[j.toNat].toNat : Int) = bat s j.toNat := by
      unfold bat
      rw [List.getD_eq_getElem?_getD, List.getElem?_eq_getElem (by simpa using hlt)]
      rfl
    simp only [execOp, hx, hy, Instr.index, asIntOf, Sem.run_bind, Sem.run_pure, Result.andThen_ok, run_underlying (hT.ustr hk), if_pos h2, hb, hq]
  · rename_i n el cs _
    obtain ⟨⟨h2, h3⟩, h⟩ := h.req
    rw [hk] at hF
    have hF := hF.resolve_left (by simp)
    simp only [Kd.elem] at hF
    obtain ⟨vals, hv, hr⟩ := hx.inv (by simp)
    have hv' : c.eval x = .agg vals.toArray := hv
    have : ∃ z, RV ρ (Stab B ρ e' w) w D v z ∧ (part el vals.toArray (j.toNat * tf.size)).run P w = .ok z w := by
      split at h
      · obtain ⟨h1, h⟩ := h.req
        obtain ⟨z, g1, g2⟩ := part_run (P := P) hF hr h
        exact ⟨z, g1, by simpa [h1] using g2⟩
      · obtain ⟨z, g1, g2⟩ := part_run (P := P) hF hr h
        exact ⟨z, g1, by simpa using g2⟩
    obtain ⟨z, g1, g2⟩ := this
    refine .value (x := z) (w' := w) ?_ (Post.pure hg.mem g1)
    simp only [execOp, hy, hv', Instr.index, asIntOf, Sem.run_bind, Sem.run_pure, Result.andThen_ok, run_underlying (hT.uarr hk)]
    rw [if_pos ⟨h2, h3⟩]
    simp only [Sem.run_bind, Result.andThen_ok, hF.run_size, g2]

end

end Sx

/- Slices of slices, strings and bytes, lengths. -/
set_option linter.unusedVariables false
set_option linter.unusedSimpArgs false
namespace Sx
open Go

/-- The bytes of a string, and back. -/
def bytesOf (s : ByteArray) : List Int := s.data.toList.map fun b => (b.toNat : Int)
def strOf (xs : List Int) : ByteArray := ⟨(xs.map fun n => UInt8.ofNat n.toNat).toArray⟩

/-- An optional bound. -/
def bd (G : Nat → Option AV) (t : Tms) : Option Operand → Option (Option Int)
  | none => some none
  | some x => match ev G t x with
    | some (.int _ j) => some (some j)
    | _ => none
/-- Both bounds of a slice of so many. -/
def bds (len : Nat) (lo hi : Option Int) : Q (Nat × Nat) :=
  match lo, hi with
  | none, none => ret (0, len)
  | some l, none => req (0 ≤ l ∧ l.toNat ≤ len) (ret (l.toNat, len))
  | none, some h => req (0 ≤ h ∧ h.toNat ≤ len) (ret (0, h.toNat))
  | some l, some h => req (0 ≤ l ∧ l.toNat ≤ h.toNat ∧ 0 ≤ h ∧ h.toNat ≤ len) (ret (l.toNat, h.toNat))

def slF (tt : Nat → Option TI) (e : Ents) (ti : TI) (p : AV) (lo hi : Option Int) : Q AV :=
  match ti.kd, p with
  | .arr n el, .ptr nm o i sz => opt (tt el) fun tf => opt (lk e nm) fun x =>
    match x with
    | .obj _ v => req (o = 0 ∧ i = 0 ∧ n ≤ 9223372036854775807 ∧ szL (comps v) = some (n * tf.size)) (bnd (bds n lo hi) fun q => ret (.sl nm tf.size q.1 (q.2 - q.1)))
    | _ => none
  | .arr n el, .pel v =>
    match v with
    | .agg [.ints k m xs] => opt (tt el) fun tf => req (m = n ∧ tf.size = 1 ∧ n ≤ 9223372036854775807) (bnd (bds n lo hi) fun q => ret (.lstI k ((xs.take q.2).drop q.1)))
    | _ => none
  | .slice el, .sl nm sz off len => opt (tt el) fun tf => req (tf.size = sz) (match lo, hi, lk e nm with
    | some a, some b, some (.vec _ (.avs s l)) => req (s = sz ∧ 0 < sz ∧ 0 ≤ a ∧ a.toNat ≤ b.toNat ∧ 0 ≤ b ∧ off + b.toNat ≤ l.length) (ret (.sl nm sz (off + a.toNat) (b.toNat - a.toNat)))
    | lo, hi, _ => bnd (bds len lo hi) fun q => ret (.sl nm sz (off + q.1) (q.2 - q.1)))
  | .slice el, .lstI k xs => opt (tt el) fun tf => req (tf.size = 1) (bnd (bds xs.length lo hi) fun q => ret (.lstI k ((xs.take q.2).drop q.1)))
  | .slice el, .lstS ss => opt (tt el) fun tf => req (tf.size = 1) (bnd (bds ss.length lo hi) fun q => ret (.lstS ((ss.take q.2).drop q.1)))
  | .slice el, .lst sz l => opt (tt el) fun tf => req (tf.size = sz) (bnd (bds l.length lo hi) fun q => ret (.lst sz ((l.take q.2).drop q.1)))
  | .slice el, .nils => opt (tt el) fun _ => bnd (bds 0 lo hi) fun _ => ret .nils
  | .str, .str s => bnd (bds s.size lo hi) fun q => ret (.str (s.extract q.1 q.2))
  | _, _ => none

section
variable {P : Program} {G : Nat → Option AV} {t : Tms} {e : Ents} {nb : Nat} {dst : Option Tmp} {ty : TypeId} {pos : String} {after : Array Edge} {gd : Option (Nat × Bool)}

/-- What the model makes of the bounds. -/
theorem run_bds (isSlice : Bool) {len cap l h : Nat} {lo hi : Option Int} (w : World) (hb : Ok (bds len lo hi) (l, h)) (hl : len ≤ cap) (k1 k2 : IntKind) :
    (Instr.sliceBounds isSlice len cap (lo.map (Value.int k1)) (hi.map (Value.int k2)) none).run P w = .ok (l, h, cap) w ∧ l ≤ h ∧ h ≤ len := by
  cases lo <;> cases hi <;> simp only [bds] at hb
  · have := hb.ret; cases this
    exact ⟨by simp [Instr.sliceBounds], Nat.zero_le _, Nat.le_refl _⟩
  · obtain ⟨⟨h1, h2⟩, h3⟩ := hb.req
    have := h3.ret; cases this
    refine ⟨?_, Nat.zero_le _, h2⟩
    simp only [Instr.sliceBounds, Option.map_some, Option.map_none, Sem.run_bind, Sem.run_pure, Result.andThen_ok]
    rw [run_sliceBound w _ _ _ _ h1 (by omega)]
    simp
  · obtain ⟨⟨h1, h2⟩, h3⟩ := hb.req
    have := h3.ret; cases this
    refine ⟨?_, h2, Nat.le_refl _⟩
    simp only [Instr.sliceBounds, Option.map_some, Option.map_none, Sem.run_bind, Sem.run_pure, Result.andThen_ok]
    rw [run_sliceBound w _ _ _ _ h1 (by omega)]
    simp
  · obtain ⟨⟨h1, h2, h3, h4⟩, h5⟩ := hb.req
    have := h5.ret; cases this
    refine ⟨?_, h2, h4⟩
    simp only [Instr.sliceBounds, Option.map_some, Option.map_none, Sem.run_bind, Sem.run_pure, Result.andThen_ok]
    rw [run_sliceBound w _ _ _ _ h3 (by omega)]
    simp only [Result.andThen_ok]
    rw [run_sliceBound w _ _ _ _ h1 (by omega)]
    simp

/-- Bounds up to the capacity. -/
theorem run_bdsC {len cap : Nat} {a b : Int} (w : World) (h1 : 0 ≤ a) (h2 : a.toNat ≤ b.toNat) (h3 : 0 ≤ b) (h4 : b.toNat ≤ cap) (k1 k2 : IntKind) :
    (Instr.sliceBounds true len cap (some (.int k1 a)) (some (.int k2 b)) none).run P w = .ok (a.toNat, b.toNat, cap) w := by
  simp only [Instr.sliceBounds, Sem.run_bind, Sem.run_pure, Result.andThen_ok]
  rw [run_sliceBound w _ _ _ _ h3 (by omega)]
  simp only [Result.andThen_ok]
  rw [run_sliceBound w _ _ _ _ h1 (by omega)]
  simp
theorem bd_sound {B : Nat → Prop} {ρ : Nat → Nat} {D : Nat → Prop} {t' : Tms} {e' : Ents} {a : Act} {w : World} (hg : Good B G ρ D t' e' a w) (hl : Le t t') {x : Option Operand} {r : Option Int} (h : bd G t x = some r) :
    ∃ k, x.map a.eval = r.map (Value.int k) := by
  cases x with
  | none => cases h; exact ⟨.i64, rfl⟩
  | some x =>
    simp only [bd] at h
    split at h
    · next k j hj => cases h; exact ⟨k, by simp [(ev_sound hg hl hj).int_inv]⟩
    · cases h

theorem addr_eq {b o cap l sz : Nat} (h : l ≤ cap) : (if cap = l then (some ⟨b, o, none⟩ : Option Addr) else (some (⟨b, o, none⟩ : Addr)).map (·.add (l * sz))) = some ⟨b, o + l * sz, none⟩ ∨ (cap - l = 0 ∧ (if cap = l then (some ⟨b, o, none⟩ : Option Addr) else (some (⟨b, o, none⟩ : Addr)).map (·.add (l * sz))) = some ⟨b, o, none⟩) := by
  by_cases hq : cap = l
  · rw [if_pos hq]; exact .inr ⟨by omega, rfl⟩
  · rw [if_neg hq]; left; simp [addr_add]

/-- A slice with a bound of its capacity: by value it is told; of one's own nothing is. -/
def slM (tt : Nat → Option TI) (ti : TI) (p : AV) (lo hi mx : Option Int) : Q AV :=
  match ti.kd, p, lo, hi, mx with
  | .slice el, .sl nm sz off len, some a, some b, some m => opt (tt el) fun tf => req (0 ≤ a ∧ a.toNat ≤ b.toNat ∧ 0 ≤ b ∧ b.toNat ≤ m.toNat ∧ 0 ≤ m ∧ m.toNat ≤ len) (ret .unk)
  | .slice el, .nils, some a, some b, some m => opt (tt el) fun tf => req (a = 0 ∧ b = 0 ∧ m = 0) (ret .nils)
  | .slice el, .lstI k xs, some a, some b, some m => opt (tt el) fun tf => req (tf.size = 1 ∧ 0 ≤ a ∧ a.toNat ≤ b.toNat ∧ 0 ≤ b ∧ b.toNat ≤ m.toNat ∧ 0 ≤ m ∧ m.toNat ≤ xs.length) (ret (.lstI k ((xs.take b.toNat).drop a.toNat)))
  | _, _, _, _, _ => none
theorem run_bdsM {len cap : Nat} {a b m : Int} (w : World) (h1 : 0 ≤ a) (h2 : a.toNat ≤ b.toNat) (h3 : 0 ≤ b) (h4 : b.toNat ≤ m.toNat) (h5 : 0 ≤ m) (h6 : m.toNat ≤ cap) (k1 k2 k3 : IntKind) :
    (Instr.sliceBounds true len cap (some (.int k1 a)) (some (.int k2 b)) (some (.int k3 m))).run P w = .ok (a.toNat, b.toNat, m.toNat) w := by
  simp only [Instr.sliceBounds, Sem.run_bind, Sem.run_pure, Result.andThen_ok]
  rw [run_sliceBound w _ _ _ _ h5 (by omega)]
  simp only [Result.andThen_ok]
  rw [run_sliceBound w _ _ _ _ h3 (by omega)]
  simp only [Result.andThen_ok]
  rw [run_sliceBound w _ _ _ _ h1 (by omega)]
  simp
theorem sound_sliceM {tt : Nat → Option TI} (hTT : TT P tt) {T : Nat} {ti : TI} {x : Operand} {lo hi mx : Option Operand} {rl rh rm : Option Int} {p v : AV} (hT : TyOK P T ti) (hx : ev G t x = some p) (hlo : bd G t lo = some rl) (hhi : bd G t hi = some rh) (hmx : bd G t mx = some rm) (h : Ok (slM tt ti p rl rh rm) v) :
    OpSound P G t e nb ⟨dst, .slice T x lo hi mx, ty, pos, after, gd⟩ v [] := by
  intro B ρ D t' e' c w ht hle hg _
  have hx := ev_sound hg ht hx
  obtain ⟨k1, hk1⟩ := bd_sound hg ht hlo
  obtain ⟨k2, hk2⟩ := bd_sound hg ht hhi
  obtain ⟨k3, hk3⟩ := bd_sound hg ht hmx
  have sli : ∀ (el : Nat) (tf : TI) (ad : Option Addr) (len cap : Nat) (a b m : Int), ti.kd = .slice el → tt el = some tf → c.eval x = .slice ad len cap → rl = some a → rh = some b → rm = some m →
      0 ≤ a → a.toNat ≤ b.toNat → 0 ≤ b → b.toNat ≤ m.toNat → 0 ≤ m → m.toNat ≤ cap →
      (execOp c.eval ⟨dst, .slice T x lo hi mx, ty, pos, after, gd⟩).run P w = .ok (.value (.slice (if m.toNat = a.toNat then ad else ad.map (·.add (a.toNat * tf.size))) (b.toNat - a.toNat) (m.toNat - a.toNat))) w := by
    intro el tf ad len cap a b m hk htf hv e1 e2 e3 g1 g2 g3 g4 g5 g6
    subst e1 e2 e3
    simp only [execOp, hk1, hk2, hk3, hv, Option.map_some, Instr.sliceAt, Instr.slice, Sem.run_bind, run_underlying (hT.uslice hk), Result.andThen_ok, run_bdsM (P := P) (len := len) (cap := cap) w g1 g2 g3 g4 g5 g6 k1 k2 k3, (hTT _ _ htf).run_size, Sem.run_pure]
  unfold slM at h
  split at h
  · rename_i el nm sz off len a b m hk _
    obtain ⟨tf, htf, h⟩ := h.opt
    obtain ⟨⟨g1, g2, g3, g4, g5, g6⟩, h⟩ := h.req
    cases h.ret
    obtain ⟨cs, hv, hr⟩ := hx.inv (by simp)
    cases hr with
    | sl hn ha hl hm hb0 hc =>
      exact .value (sli el tf _ _ _ a b m hk htf hv rfl rfl rfl g1 g2 g3 g4 g5 (by omega)) (Post.pure hg.mem (.one (cs := [_]) (.unk rfl rfl)))
  · rename_i el a b m hk _
    obtain ⟨tf, htf, h⟩ := h.opt
    obtain ⟨⟨g1, g2, g3⟩, h⟩ := h.req
    cases h.ret
    subst g1 g2 g3
    obtain ⟨cs, hv, hr⟩ := hx.inv (by simp)
    cases hr with
    | nils => exact .value (sli el tf none 0 0 0 0 0 hk htf hv rfl rfl rfl (by omega) (by omega) (by omega) (by omega) (by omega) (by simp)) (Post.pure hg.mem (.one (cs := [_]) .nils))
  · rename_i el k xs a b m hk _
    obtain ⟨tf, htf, h⟩ := h.opt
    obtain ⟨⟨g0, g1, g2, g3, g4, g5, g6⟩, h⟩ := h.req
    cases h.ret
    obtain ⟨cs, hv, hr⟩ := hx.inv (by simp)
    cases hr with
    | lstI hl hm hc =>
      rename_i ad cap
      have hrun := sli el tf ad xs.length cap a b m hk htf hv rfl rfl rfl g1 g2 g3 g4 g5 (by omega)
      refine .value hrun (Post.pure hg.mem ?_)
      have hlen : ((xs.take b.toNat).drop a.toNat).length = b.toNat - a.toNat := by rw [List.length_drop, List.length_take]; omega
      have := RC.lstI (ρ := ρ) (S := Stab B ρ e' w) (w := w) (N := D) (k := k) (xs := (xs.take b.toNat).drop a.toNat) (a := if m.toNat = a.toNat then ad else ad.map (·.add (a.toNat * tf.size))) (cap := m.toNat - a.toNat) (by omega) (by omega) (fun i y hi => by
        have hi' : i < b.toNat - a.toNat := by have := (List.getElem?_eq_some_iff.1 hi).1; omega
        rw [List.getElem?_drop, List.getElem?_take, if_pos (by omega)] at hi
        obtain ⟨b1, o1, h1, h2, h3⟩ := hc _ y hi
        refine ⟨b1, o1 + a.toNat, ?_, h2, ?_⟩
        · rw [if_neg (by omega), h1, g0, Nat.mul_one]; simp [addr_add]
        · rw [Nat.add_assoc]; exact h3)
      rw [hlen] at this
      exact .one (cs := [_]) this
  · exact h.none.elim

theorem sound_slice {tt : Nat → Option TI} (hTT : TT P tt) {T : Nat} {ti : TI} {x : Operand} {lo hi : Option Operand} {rl rh : Option Int} {p v : AV} (hT : TyOK P T ti) (hx : ev G t x = some p) (hlo : bd G t lo = some rl) (hhi : bd G t hi = some rh) (h : Ok (slF tt e ti p rl rh) v) :
    OpSound P G t e nb ⟨dst, .slice T x lo hi none, ty, pos, after, gd⟩ v [] := by
  intro B ρ D t' e' c w ht hle hg _
  have hx := ev_sound hg ht hx
  obtain ⟨k1, hk1⟩ := bd_sound hg ht hlo
  obtain ⟨k2, hk2⟩ := bd_sound hg ht hhi
  -- a slice, by the model
  have sli : ∀ (el : Nat) (tf : TI) (a : Option Addr) (len cap l h : Nat), ti.kd = .slice el → tt el = some tf → c.eval x = .slice a len cap → len ≤ cap → Ok (bds len rl rh) (l, h) →
      (execOp c.eval ⟨dst, .slice T x lo hi none, ty, pos, after, gd⟩).run P w = .ok (.value (.slice (if cap = l then a else a.map (·.add (l * tf.size))) (h - l) (cap - l))) w ∧ l ≤ h ∧ h ≤ len := by
    intro el tf a len cap l h hk htf hv hlc hb
    obtain ⟨g1, g2, g3⟩ := run_bds (P := P) true (cap := cap) w hb hlc k1 k2
    refine ⟨?_, g2, g3⟩
    simp only [execOp, hk1, hk2, hv, Option.map_none, Instr.sliceAt, Instr.slice, Sem.run_bind, run_underlying (hT.uslice hk), Result.andThen_ok, g1, (hTT _ _ htf).run_size, Sem.run_pure]
  cases hk : ti.kd <;> cases p <;> simp only [slF, hk] at h <;> first | exact h.none.elim | skip
  · -- a string
    rename_i s _
    obtain ⟨⟨l, h'⟩, hb, h⟩ := h.bnd
    have := h.ret; subst this
    obtain ⟨g1, g2, g3⟩ := run_bds (P := P) false (cap := s.size) w hb (Nat.le_refl _) k1 k2
    refine .value (x := .string (s.extract l h')) (w' := w) ?_ (Post.pure hg.mem .ofStr)
    simp only [execOp, hk1, hk2, hx.str_inv, Option.map_none, Instr.sliceAt, Instr.slice, Sem.run_bind, run_underlying (hT.ustr hk), Result.andThen_ok, Option.isSome_none, Bool.false_eq_true, if_false, g1, Sem.run_pure]
  · -- one's own
    rename_i el nm sz off len _
    obtain ⟨tf, htf, h⟩ := h.opt
    obtain ⟨h1, h⟩ := h.req
    split at h
    · -- up to what is known of the row
      rename_i a0 b0 T0 s0 l0 hrow0 _ _
      obtain ⟨⟨g1, g2, g3, g4, g5, g6⟩, h⟩ := h.req
      have := h.ret; subst this
      subst g1
      obtain ⟨cs, hv, hr⟩ := hx.inv (by simp)
      cases hr with
      | sl hn ha hl hm hb0 hc =>
        rename_i cap a c0
        have hz0 := (hg.mem.en _ _ (hle _ _ hrow0)).2
        cases hz0 with
        | vec hrw hbq htake =>
          rename_i cs1 c1
          have hlen1 : ∀ {l : List AV} {cs : List Value}, RowC ρ (Stab B ρ e' w) w D (.avs s0 l) cs → cs.length = l.length * s0 := by
            intro l
            induction l with
            | nil => intro cs h; cases h; simp
            | cons y l ih =>
              intro cs h
              cases h with
              | cons h1 hz h2 => rw [List.length_append, hz, ih h2, List.length_cons, Nat.add_mul]; omega
          have hcl := hlen1 hrw
          have hcs : cs1.length ≤ c1.size := by
            have := congrArg List.length htake; rw [List.length_take] at this; simp at this; omega
          have hc1 : c0 = c1.size := by
            obtain ⟨c2, T2, fr2, e1, e2⟩ := hb0
            obtain ⟨fr3, e3, _⟩ := hbq
            rw [e1] at e3; cases e3; exact e2.symm
          have hcap2 : l0.length ≤ off + cap := by
            have : l0.length * s0 ≤ (off + cap) * s0 := by omega
            exact Nat.le_of_mul_le_mul_right this g2
          have hrun : (execOp c.eval ⟨dst, .slice T x lo hi none, ty, pos, after, gd⟩).run P w = .ok (.value (.slice (if cap = a0.toNat then some a else (some a).map (·.add (a0.toNat * s0))) (b0.toNat - a0.toNat) (cap - a0.toNat))) w := by
            have hv' : c.eval x = .slice (some a) len cap := hv
            simp only [execOp, hk1, hk2, hv', Option.map_some, Option.map_none, Instr.sliceAt, Instr.slice, Sem.run_bind, run_underlying (hT.uslice hk), Result.andThen_ok, run_bdsC (P := P) (len := len) (cap := cap) w g3 g4 g5 (by omega) k1 k2, (hTT _ _ htf).run_size, Sem.run_pure, h1]
          refine .value hrun (Post.pure hg.mem ?_)
          have hcap : (off + a0.toNat + (cap - a0.toNat)) * s0 = c0 := by rw [← hc]; congr 1; omega
          rcases ha with ha | ⟨h0, ha1, ha2⟩
          · subst ha
            rcases addr_eq (b := ρ nm) (o := off * s0) (sz := s0) (show a0.toNat ≤ cap by omega) with hq | ⟨hz, hq⟩
            · rw [hq]
              exact .one (cs := [_]) (.sl hn (.inl (by simp [Nat.add_mul])) (by omega) (by omega) hb0 hcap)
            · rw [hq]
              exact .one (cs := [_]) (.sl hn (.inr ⟨hz, rfl, rfl⟩) (by omega) (by omega) hb0 hcap)
          · have hl0 : a0.toNat = 0 := by omega
            rw [hl0, if_pos (by omega)]
            exact .one (cs := [_]) (.sl hn (.inr ⟨by omega, ha1, ha2⟩) (by omega) (by omega) hb0 (by rw [← hc]; congr 1))
    obtain ⟨⟨l, h'⟩, hb, h⟩ := h.bnd
    have := h.ret; subst this
    obtain ⟨cs, hv, hr⟩ := hx.inv (by simp)
    cases hr with
    | sl hn ha hl hm hb0 hc =>
      rename_i cap a c0
      obtain ⟨g1, g2, g3⟩ := sli el tf _ _ _ l h' hk htf hv hl hb
      rw [h1] at g1
      refine .value g1 (Post.pure hg.mem ?_)
      have hcap : (off + l + (cap - l)) * sz = c0 := by rw [← hc]; congr 1; omega
      rcases ha with ha | ⟨h0, ha1, ha2⟩
      · subst ha
        rcases addr_eq (b := ρ nm) (o := off * sz) (sz := sz) (show l ≤ cap by omega) with hq | ⟨hz, hq⟩
        · rw [hq]
          exact .one (cs := [_]) (.sl hn (.inl (by simp [Nat.add_mul])) (by omega) (by omega) hb0 hcap)
        · rw [hq]
          exact .one (cs := [_]) (.sl hn (.inr ⟨hz, rfl, rfl⟩) (by omega) (by omega) hb0 hcap)
      · have hl0 : l = 0 := by omega
        subst hl0
        rw [if_pos (by omega)]
        exact .one (cs := [_]) (.sl hn (.inr ⟨by omega, ha1, ha2⟩) (by omega) (by omega) hb0 hcap)
  · -- nil
    rename_i el _
    obtain ⟨tf, htf, h⟩ := h.opt
    obtain ⟨⟨l, h'⟩, hb, h⟩ := h.bnd
    have := h.ret; subst this
    obtain ⟨cs, hv, hr⟩ := hx.inv (by simp)
    cases hr with
    | nils =>
      obtain ⟨g1, g2, g3⟩ := sli el tf none 0 0 l h' hk htf hv (Nat.le_refl _) hb
      have hl0 : l = 0 := by omega
      have hh0 : h' = 0 := by omega
      subst hl0 hh0
      exact .value g1 (Post.pure hg.mem (.one (cs := [_]) .nils))
  · rename_i el k xs _
    obtain ⟨tf, htf, h⟩ := h.opt
    obtain ⟨h1, h⟩ := h.req
    obtain ⟨⟨l, h'⟩, hb, h⟩ := h.bnd
    have := h.ret; subst this
    obtain ⟨cs, hv, hr⟩ := hx.inv (by simp)
    cases hr with
    | lstI hl hm hc =>
      rename_i a cap
      obtain ⟨g1, g2, g3⟩ := sli el tf a xs.length cap l h' hk htf hv hl hb
      refine .value g1 (Post.pure hg.mem ?_)
      have hlen : ((xs.take h').drop l).length = h' - l := by simp; omega
      have := RC.lstI (ρ := ρ) (S := Stab B ρ e' w) (w := w) (N := D) (k := k) (xs := (xs.take h').drop l) (a := if cap = l then a else a.map (·.add (l * tf.size))) (cap := cap - l) (by omega) (by omega) (fun i y hi => by
        have hlt := (List.getElem?_eq_some_iff.1 hi).1
        rw [hlen] at hlt
        rw [List.getElem?_drop, List.getElem?_take, if_pos (by omega)] at hi
        obtain ⟨b, o, rfl, hS, hcell⟩ := hc _ _ hi
        refine ⟨b, o + l, ?_, hS, by rw [Nat.add_assoc]; exact hcell⟩
        rw [if_neg (by omega), h1]
        simp [addr_add])
      rw [hlen] at this
      exact .one (cs := [_]) this
  · rename_i el ss _
    obtain ⟨tf, htf, h⟩ := h.opt
    obtain ⟨h1, h⟩ := h.req
    obtain ⟨⟨l, h'⟩, hb, h⟩ := h.bnd
    have := h.ret; subst this
    obtain ⟨cs, hv, hr⟩ := hx.inv (by simp)
    cases hr with
    | lstS hl hm hc =>
      rename_i a cap
      obtain ⟨g1, g2, g3⟩ := sli el tf a ss.length cap l h' hk htf hv hl hb
      refine .value g1 (Post.pure hg.mem ?_)
      have hlen : ((ss.take h').drop l).length = h' - l := by simp; omega
      have := RC.lstS (ρ := ρ) (S := Stab B ρ e' w) (w := w) (N := D) (ss := (ss.take h').drop l) (a := if cap = l then a else a.map (·.add (l * tf.size))) (cap := cap - l) (by omega) (by omega) (fun i y hi => by
        have hlt := (List.getElem?_eq_some_iff.1 hi).1
        rw [hlen] at hlt
        rw [List.getElem?_drop, List.getElem?_take, if_pos (by omega)] at hi
        obtain ⟨b, o, rfl, hS, hcell⟩ := hc _ _ hi
        refine ⟨b, o + l, ?_, hS, by rw [Nat.add_assoc]; exact hcell⟩
        rw [if_neg (by omega), h1]
        simp [addr_add])
      rw [hlen] at this
      exact .one (cs := [_]) this
  · rename_i el sz xs _
    obtain ⟨tf, htf, h⟩ := h.opt
    obtain ⟨h1, h⟩ := h.req
    obtain ⟨⟨l, h'⟩, hb, h⟩ := h.bnd
    have := h.ret; subst this
    obtain ⟨cs, hv, hr⟩ := hx.inv (by simp)
    cases hr with
    | lst vs hl hm hr hc =>
      rename_i a cap
      obtain ⟨g1, g2, g3⟩ := sli el tf a xs.length cap l h' hk htf hv hl hb
      refine .value g1 (Post.pure hg.mem ?_)
      have hlen : ((xs.take h').drop l).length = h' - l := by simp; omega
      have hget : ∀ i (y : AV), ((xs.take h').drop l)[i]? = some y → i < h' - l ∧ xs[l + i]? = some y := by
        intro i y hi
        have hlt := (List.getElem?_eq_some_iff.1 hi).1
        rw [hlen] at hlt
        rw [List.getElem?_drop, List.getElem?_take, if_pos (by omega)] at hi
        exact ⟨hlt, hi⟩
      have := RC.lst (ρ := ρ) (S := Stab B ρ e' w) (w := w) (N := D) (sz := sz) (l := (xs.take h').drop l) (a := if cap = l then a else a.map (·.add (l * tf.size))) (cap := cap - l) (fun i => vs (l + i)) (by omega) (by omega)
        (fun i y hi => hr _ _ (hget i y hi).2)
        (fun i y hi => by
          obtain ⟨hlt, hi'⟩ := hget i y hi
          obtain ⟨hz, b, o, rfl, hS, hcell⟩ := hc _ _ hi'
          refine ⟨hz, b, o + l * sz, ?_, hS, fun j u hj => ?_⟩
          · rw [if_neg (by omega), h1]
            simp [addr_add]
          · have := hcell j u hj
            rwa [Nat.add_mul, ← Nat.add_assoc] at this)
      rw [hlen] at this
      exact .one (cs := [_]) this
  · -- of an array of one's own
    rename_i n el nm o i sz _
    obtain ⟨tf, htf, h⟩ := h.opt
    obtain ⟨z, hz, h⟩ := h.opt
    cases z with
    | vec => exact h.none.elim
    | mset => exact h.none.elim
    | obj T0 v0 =>
      obtain ⟨⟨h1, h2, h3, h4⟩, h'⟩ := h.req
      clear h
      subst h1 h2
      obtain ⟨⟨l, h''⟩, hb, h5⟩ := h'.bnd
      have := h5.ret; subst this
      obtain ⟨cs, hv, hr⟩ := hx.inv (by simp)
      cases hr with
      | ptr hn =>
        have hv' : c.eval x = .pointer (some ⟨ρ nm, 0, none⟩) := by simpa [shape, AV.isAgg] using hv
        have he := (hg.mem.en nm _ (hle _ _ hz)).2
        cases he with
        | obj hr0 hb0 =>
          have hsz := hr0.comps.szL h4
          obtain ⟨g1, g2, g3⟩ := run_bds (P := P) false (cap := n) w hb (Nat.le_refl _) k1 k2
          refine .value (x := .slice (if n = l then some ⟨ρ nm, 0, none⟩ else (some (⟨ρ nm, 0, none⟩ : Addr)).map (·.add (l * tf.size))) (h'' - l) (n - l)) (w' := w) ?_ (Post.pure hg.mem ?_)
          · simp only [execOp, hk1, hk2, hv', Option.map_none, Instr.sliceAt, Instr.sureAddr, Sem.run_bind, run_underlying (hT.uarr hk), Result.andThen_ok, g1, (hTT _ _ htf).run_size, Sem.run_pure]
            split <;> rfl
          · have hcap : (l + (n - l)) * tf.size = n * tf.size := by congr 1; omega
            have hm : n - l ≤ maxLen := by simp only [Go.maxLen]; omega
            rcases addr_eq (b := ρ nm) (o := 0) (sz := tf.size) (show l ≤ n by omega) with hq | ⟨hz, hq⟩
            · rw [hq]
              exact .one (cs := [_]) (.sl hn (.inl (by simp)) (by omega) hm hb0.rw (by rw [hcap, ← hsz]; simp))
            · rw [hq]
              exact .one (cs := [_]) (.sl hn (.inr ⟨hz, rfl, rfl⟩) (by omega) hm hb0.rw (by rw [hcap, ← hsz]; simp))
  · -- of an array that nobody writes
    rename_i n el v0 _
    split at h
    · next k m xs _ =>
      obtain ⟨tf, htf, h⟩ := h.opt
      obtain ⟨⟨h1, h2, h3⟩, h'⟩ := h.req
      clear h
      subst h1
      obtain ⟨⟨l, h''⟩, hb, h5⟩ := h'.bnd
      have := h5.ret; subst this
      obtain ⟨cs, hv, hr⟩ := hx.inv (by simp)
      cases hr with
      | pel hr0 hS hc =>
        rename_i b o vals
        have hv' : c.eval x = .pointer (some ⟨b, o, none⟩) := hv
        cases hr0 with
        | cons r1 r2 =>
          cases r2
          cases r1 with
          | ints hlen =>
            obtain ⟨g1, g2, g3⟩ := run_bds (P := P) false (cap := m) w hb (Nat.le_refl _) k1 k2
            refine .value (x := .slice (if m = l then some ⟨b, o, none⟩ else (some (⟨b, o, none⟩ : Addr)).map (·.add (l * tf.size))) (h'' - l) (m - l)) (w' := w) ?_ (Post.pure hg.mem ?_)
            · simp only [execOp, hk1, hk2, hv', Option.map_none, Instr.sliceAt, Instr.sureAddr, Sem.run_bind, run_underlying (hT.uarr hk), Result.andThen_ok, g1, (hTT _ _ htf).run_size, Sem.run_pure]
              split <;> rfl
            · have hll : ((xs.take h'').drop l).length = h'' - l := by simp; omega
              have hm : m - l ≤ maxLen := by simp only [Go.maxLen]; omega
              have := RC.lstI (ρ := ρ) (S := Stab B ρ e' w) (w := w) (N := D) (k := k) (xs := (xs.take h'').drop l) (a := if m = l then some ⟨b, o, none⟩ else (some (⟨b, o, none⟩ : Addr)).map (·.add (l * tf.size))) (cap := m - l) (by omega) hm (fun i y hi => by
                have hlt := (List.getElem?_eq_some_iff.1 hi).1
                rw [hll] at hlt
                rw [List.getElem?_drop, List.getElem?_take, if_pos (by omega)] at hi
                refine ⟨b, o + l, ?_, hS, ?_⟩
                · rw [if_neg (by omega), h2]
                  simp [addr_add]
                · rw [Nat.add_assoc]
                  exact hc (l + i) _ (by simp [hi]))
              rw [hll] at this
              exact .one (cs := [_]) this
    · exact h.none.elim

end

end Sx
