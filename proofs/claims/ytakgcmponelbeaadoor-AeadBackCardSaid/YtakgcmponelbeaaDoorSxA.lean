/- Abstract values and how a Go value of the model reads as one. -/
import Derived.WalkKit
set_option linter.unusedVariables false
set_option linter.unusedSimpArgs false
namespace Sx
open Go

/-- Abstract values. `agg` is a struct or an array (its cells one behind the other; `ints` is n cells of one integer kind). `ptr`, `sl`, `mp` name a block of the call's own; `lstI`, `lstS`, `lst` are slices by value, that nobody writes; `pel` points at cells that nobody writes. -/
inductive AV where
  | int (k : IntKind) (n : Int)
  | bool (b : Bool)
  | str (s : ByteArray)
  | ints (k : IntKind) (n : Nat) (xs : List Int)
  | agg (cs : List AV)
  | tup (l : List AV)
  | ptr (nm o i sz : Nat)
  | pel (v : AV)
  | sl (nm sz off len : Nat)
  | nils | nilp | nilf | nili | nilm
  | lstI (k : IntKind) (xs : List Int)
  | lstS (ss : List ByteArray)
  | lst (sz : Nat) (l : List AV)
  | fn (f : Fn) (cap : List AV)
  | ifc (t : TypeId) (v : AV)
  | mp (nm : Nat)
  deriving Inhabited

mutual
/-- The names renamed. -/
def AV.map (f : Nat → Nat) : AV → AV
  | .int k n => .int k n
  | .bool b => .bool b
  | .str s => .str s
  | .ints k n xs => .ints k n xs
  | .agg cs => .agg (AV.mapL f cs)
  | .tup l => .tup (AV.mapL f l)
  | .ptr nm o i sz => .ptr (f nm) o i sz
  | .pel v => .pel v
  | .sl nm sz off len => .sl (f nm) sz off len
  | .nils => .nils
  | .nilp => .nilp
  | .nilf => .nilf
  | .nili => .nili
  | .nilm => .nilm
  | .lstI k xs => .lstI k xs
  | .lstS ss => .lstS ss
  | .lst sz l => .lst sz l
  | .fn g cap => .fn g (AV.mapL f cap)
  | .ifc t v => .ifc t (AV.map f v)
  | .mp nm => .mp (f nm)
def AV.mapL (f : Nat → Nat) : List AV → List AV
  | [] => []
  | a :: l => AV.map f a :: AV.mapL f l
end

def AV.isAgg : AV → Bool
  | .agg _ => true
  | .ints _ _ _ => true
  | _ => false
/-- The value that cells are. -/
def shape (a : AV) (cs : List Value) : Value := bif a.isAgg then .agg cs.toArray else cs.headD (.tuple #[])

/-- No name. -/
def NoNm : Nat → Prop := fun _ => False
/-- A block of so many cells. -/
def Rw (w : World) (b n : Nat) : Prop := ∃ (c : Array Value) (T : TypeId) (fr : Nat × Nat), w.heap[b]? = some (Obj.cells c T fr) ∧ c.size = n
theorem Rw.lt {w : World} {b n : Nat} (h : Rw w b n) : b < w.heap.size := by obtain ⟨c, T, fr, h, _⟩ := h; exact (Array.getElem?_eq_some_iff.1 h).1
theorem Rw.congr {w w' : World} {b n : Nat} (e : w'.heap[b]? = w.heap[b]?) (h : Rw w b n) : Rw w' b n := by obtain ⟨c, T, fr, h, h2⟩ := h; exact ⟨c, T, fr, e.trans h, h2⟩
/-- Cells `cs` read as the abstract value. `N`: the names that may occur. `S`: the blocks that nobody writes. -/
inductive RC (ρ : Nat → Nat) (S : Nat → Prop) (w : World) : (Nat → Prop) → AV → List Value → Prop
  | int {N k n} : RC ρ S w N (.int k n) [.int k n]
  | bool {N b} : RC ρ S w N (.bool b) [.bool b]
  | str {N s} : RC ρ S w N (.str s) [.string s]
  | ints {N k n xs} (h : xs.length = n) : RC ρ S w N (.ints k n xs) (xs.map (Value.int k))
  | nil {N} : RC ρ S w N (.agg []) []
  | cons {N c cs a b} (h1 : RC ρ S w N c a) (h2 : RC ρ S w N (.agg cs) b) : RC ρ S w N (.agg (c :: cs)) (a ++ b)
  | ptr {N nm o i sz} (h : N nm) : RC ρ S w N (.ptr nm o i sz) [.pointer (some ⟨ρ nm, o + i * sz, none⟩)]
  | pel {N v b o cs} (h : RC ρ S w NoNm v cs) (hs : S b) (hc : ∀ j u, cs[j]? = some u → w.cell? ⟨b, o + j, none⟩ = some u) : RC ρ S w N (.pel v) [.pointer (some ⟨b, o, none⟩)]
  | sl {N nm sz off len cap a n} (h : N nm) (ha : a = ⟨ρ nm, off * sz, none⟩ ∨ (cap = 0 ∧ a.block = ρ nm ∧ a.spot = none)) (hl : len ≤ cap) (hm : cap ≤ maxLen)
      (hb : Rw w (ρ nm) n) (hc : (off + cap) * sz = n) : RC ρ S w N (.sl nm sz off len) [.slice (some a) len cap]
  | nils {N} : RC ρ S w N .nils [.slice none 0 0]
  | nilp {N} : RC ρ S w N .nilp [.pointer none]
  | nilf {N} : RC ρ S w N .nilf [.nilFunc]
  | nili {N} : RC ρ S w N .nili [.nilIface]
  | nilm {N} : RC ρ S w N .nilm [.map none]
  | lstI {N k xs a cap} (hl : xs.length ≤ cap) (hm : cap ≤ maxLen)
      (hc : ∀ i x, xs[i]? = some x → ∃ b o, a = some ⟨b, o, none⟩ ∧ S b ∧ w.cell? ⟨b, o + i, none⟩ = some (.int k x)) : RC ρ S w N (.lstI k xs) [.slice a xs.length cap]
  | lstS {N ss a cap} (hl : ss.length ≤ cap) (hm : cap ≤ maxLen)
      (hc : ∀ i x, ss[i]? = some x → ∃ b o, a = some ⟨b, o, none⟩ ∧ S b ∧ w.cell? ⟨b, o + i, none⟩ = some (.string x)) : RC ρ S w N (.lstS ss) [.slice a ss.length cap]
  | lst {N sz l a cap} (vs : Nat → List Value) (hl : l.length ≤ cap) (hm : cap ≤ maxLen) (hr : ∀ i x, l[i]? = some x → RC ρ S w NoNm x (vs i))
      (hc : ∀ i x, l[i]? = some x → (vs i).length = sz ∧ ∃ b o, a = some ⟨b, o, none⟩ ∧ S b ∧ ∀ j u, (vs i)[j]? = some u → w.cell? ⟨b, o + i * sz + j, none⟩ = some u) :
      RC ρ S w N (.lst sz l) [.slice a l.length cap]
  | fn {N f cap} (vs : Nat → List Value) (hr : ∀ i x, cap[i]? = some x → RC ρ S w N x (vs i)) :
      RC ρ S w N (.fn f cap) [.func f #[] (cap.zipIdx.map fun (x, i) => shape x (vs i)).toArray]
  | ifc {N t v cs} (h : RC ρ S w N v cs) : RC ρ S w N (.ifc t v) [.iface t (shape v cs)]
  | mp {N nm} (h : N nm) : RC ρ S w N (.mp nm) [.map (some (ρ nm))]

/-- What a later world keeps of an earlier one. -/
structure Evo (S S' : Nat → Prop) (w w' : World) : Prop where
  stable : ∀ b : Nat, S b → S' b ∧ w'.heap[b]? = w.heap[b]?
  sized : ∀ b n : Nat, Rw w b n → Rw w' b n

theorem Evo.cell {S S' : Nat → Prop} {w w' : World} (h : Evo S S' w w') {b o : Nat} (hb : S b) : w'.cell? ⟨b, o, none⟩ = w.cell? ⟨b, o, none⟩ := by
  simp [World.cell?, (h.stable b hb).2]

theorem RC.mono {ρ ρ' : Nat → Nat} {S S' : Nat → Prop} {w w' : World} {N : Nat → Prop} {a : AV} {cs : List Value} (h : RC ρ S w N a cs) (he : Evo S S' w w') :
    ∀ N' : Nat → Prop, (∀ n, N n → N' n ∧ ρ' n = ρ n) → RC ρ' S' w' N' a cs := by
  induction h with
  | int => intro N' _; exact .int
  | bool => intro N' _; exact .bool
  | str => intro N' _; exact .str
  | ints h => intro N' _; exact .ints h
  | nil => intro N' _; exact .nil
  | cons _ _ ih1 ih2 => intro N' hN; exact .cons (ih1 N' hN) (ih2 N' hN)
  | ptr h => intro N' hN; rw [← (hN _ h).2]; exact .ptr (hN _ h).1
  | pel _ hs hc ih => intro N' hN; exact .pel (ih NoNm (fun _ h => h.elim)) (he.stable _ hs).1 (fun j u hj => (he.cell hs).trans (hc j u hj))
  | sl h ha hl hm hb hc =>
    intro N' hN
    have e := (hN _ h).2
    exact .sl (hN _ h).1 (by rw [e]; exact ha) hl hm (by rw [e]; exact he.sized _ _ hb) hc
  | nils => intro N' _; exact .nils
  | nilp => intro N' _; exact .nilp
  | nilf => intro N' _; exact .nilf
  | nili => intro N' _; exact .nili
  | nilm => intro N' _; exact .nilm
  | lstI hl hm hc => intro N' _; exact .lstI hl hm (fun i x hi => let ⟨b, o, h1, h2, h3⟩ := hc i x hi; ⟨b, o, h1, (he.stable b h2).1, (he.cell h2).trans h3⟩)
  | lstS hl hm hc => intro N' _; exact .lstS hl hm (fun i x hi => let ⟨b, o, h1, h2, h3⟩ := hc i x hi; ⟨b, o, h1, (he.stable b h2).1, (he.cell h2).trans h3⟩)
  | lst vs hl hm _ hc ih =>
    intro N' _
    exact .lst vs hl hm (fun i x hi => ih i x hi NoNm (fun _ h => h.elim))
      (fun i x hi => let ⟨h0, b, o, h1, h2, h3⟩ := hc i x hi; ⟨h0, b, o, h1, (he.stable b h2).1, fun j u hj => (he.cell h2).trans (h3 j u hj)⟩)
  | fn vs _ ih => intro N' hN; exact .fn vs (fun i x hi => ih i x hi N' hN)
  | ifc _ ih => intro N' hN; exact .ifc (ih N' hN)
  | mp h => intro N' hN; rw [← (hN _ h).2]; exact .mp (hN _ h).1

theorem Evo.refl {S : Nat → Prop} (w : World) : Evo S S w w := ⟨fun _ h => ⟨h, rfl⟩, fun _ _ h => h⟩
theorem Evo.trans {S S' S'' : Nat → Prop} {w w' w'' : World} (h : Evo S S' w w') (h' : Evo S' S'' w' w'') : Evo S S'' w w'' :=
  ⟨fun b hb => ⟨(h'.stable b (h.stable b hb).1).1, (h'.stable b (h.stable b hb).1).2.trans (h.stable b hb).2⟩,
   fun b n hb => h'.sized b n (h.sized b n hb)⟩

theorem AV.mapL_eq (f : Nat → Nat) (l : List AV) : AV.mapL f l = l.map (AV.map f) := by
  induction l with
  | nil => simp [AV.mapL]
  | cons a l ih => simp [AV.mapL, ih]

theorem shape_map (f : Nat → Nat) (a : AV) (cs : List Value) : shape (a.map f) cs = shape a cs := by
  have e : (a.map f).isAgg = a.isAgg := by cases a <;> rfl
  simp only [shape, e]

theorem RC.map {ρ : Nat → Nat} {S : Nat → Prop} {w : World} {N : Nat → Prop} {a : AV} {cs : List Value} {τ : Nat → Nat} (h : RC (fun n => ρ (τ n)) S w N a cs) :
    ∀ N' : Nat → Prop, (∀ n, N n → N' (τ n)) → RC ρ S w N' (a.map τ) cs := by
  have z : ∀ {v : AV} {l : List Value}, RC (fun n => ρ (τ n)) S w NoNm v l → RC ρ S w NoNm v l :=
    fun h => h.mono (Evo.refl w) NoNm (fun _ h => h.elim)
  induction h with
  | int => intro N' _; exact .int
  | bool => intro N' _; exact .bool
  | str => intro N' _; exact .str
  | ints h => intro N' _; exact .ints h
  | nil => intro N' _; exact .nil
  | cons _ _ ih1 ih2 => intro N' hN; simp only [AV.map, AV.mapL]; exact .cons (ih1 N' hN) (by simpa only [AV.map] using ih2 N' hN)
  | ptr h => intro N' hN; exact .ptr (ρ := ρ) (hN _ h)
  | pel h hs hc ih => intro N' hN; exact .pel (z h) hs hc
  | sl h ha hl hm hb hc => intro N' hN; exact .sl (ρ := ρ) (hN _ h) ha hl hm hb hc
  | nils => intro N' _; exact .nils
  | nilp => intro N' _; exact .nilp
  | nilf => intro N' _; exact .nilf
  | nili => intro N' _; exact .nili
  | nilm => intro N' _; exact .nilm
  | lstI hl hm hc => intro N' _; exact .lstI hl hm hc
  | lstS hl hm hc => intro N' _; exact .lstS hl hm hc
  | lst vs hl hm hr hc ih => intro N' _; exact .lst vs hl hm (fun i x hi => z (hr i x hi)) hc
  | fn vs hr ih =>
    intro N' hN
    have e : ∀ l : List AV, ((l.map (AV.map τ)).zipIdx.map fun (x, i) => shape x (vs i)) = (l.zipIdx.map fun (x, i) => shape x (vs i)) := by
      intro l
      simp [List.zipIdx_map, List.map_map, Function.comp_def, shape_map]
    simp only [AV.map, AV.mapL_eq]
    rw [← e]
    refine .fn vs (fun i x hi => ?_)
    rw [List.getElem?_map, Option.map_eq_some_iff] at hi
    obtain ⟨y, hy, rfl⟩ := hi
    exact ih i y hy N' hN
  | ifc h ih => intro N' hN; simp only [AV.map]; rw [← shape_map τ]; exact .ifc (ih N' hN)
  | mp h => intro N' hN; exact .mp (ρ := ρ) (hN _ h)

mutual
/-- Every name is one of N. -/
def AV.nmIn (N : Nat → Prop) : AV → Prop
  | .agg cs => AV.nmInL N cs
  | .tup l => AV.nmInL N l
  | .ptr nm _ _ _ => N nm
  | .sl nm _ _ _ => N nm
  | .fn _ cap => AV.nmInL N cap
  | .ifc _ v => AV.nmIn N v
  | .mp nm => N nm
  | _ => True
def AV.nmInL (N : Nat → Prop) : List AV → Prop
  | [] => True
  | a :: l => AV.nmIn N a ∧ AV.nmInL N l
end
theorem AV.nmInL_get {N : Nat → Prop} : ∀ {l : List AV}, AV.nmInL N l → ∀ (i : Nat) x, l[i]? = some x → AV.nmIn N x
  | [], _, i, x, h => by simp at h
  | a :: l, hb, 0, x, h => by simp at h; subst h; exact hb.1
  | a :: l, hb, i + 1, x, h => AV.nmInL_get (l := l) hb.2 i x (by simpa using h)

theorem RC.unmap {ρ : Nat → Nat} {S : Nat → Prop} {w : World} {N' : Nat → Prop} {x : AV} {cs : List Value} {τ : Nat → Nat} (h : RC ρ S w N' x cs) :
    ∀ (a : AV) (N : Nat → Prop), a.map τ = x → a.nmIn N → RC (fun n => ρ (τ n)) S w N a cs := by
  have z : ∀ {v : AV} {l : List Value}, RC ρ S w NoNm v l → RC (fun n => ρ (τ n)) S w NoNm v l :=
    fun h => h.mono (Evo.refl w) NoNm (fun _ h => h.elim)
  induction h with
  | int => intro a N hx hb; cases a <;> simp [AV.map] at hx; obtain ⟨rfl, rfl⟩ := hx; exact .int
  | bool => intro a N hx hb; cases a <;> simp [AV.map] at hx; subst hx; exact .bool
  | str => intro a N hx hb; cases a <;> simp [AV.map] at hx; subst hx; exact .str
  | ints h => intro a N hx hb; cases a <;> simp [AV.map] at hx; obtain ⟨rfl, rfl, rfl⟩ := hx; exact .ints h
  | nil =>
    intro a N hx hb; cases a <;> simp [AV.map] at hx
    rename_i cs; cases cs with
    | nil => exact .nil
    | cons c l => simp [AV.mapL] at hx
  | cons _ _ ih1 ih2 =>
    intro a N hx hb; cases a <;> simp [AV.map] at hx
    rename_i cs; cases cs with
    | nil => simp [AV.mapL] at hx
    | cons c l => simp [AV.mapL] at hx; exact .cons (ih1 _ _ hx.1 hb.1) (ih2 _ _ (by simp [AV.map, hx.2]) hb.2)
  | ptr h => intro a N hx hb; cases a <;> simp [AV.map] at hx; obtain ⟨rfl, rfl, rfl, rfl⟩ := hx; exact .ptr (ρ := fun n => ρ (τ n)) hb
  | pel h hs hc ih => intro a N hx hb; cases a <;> simp [AV.map] at hx; subst hx; exact .pel (z h) hs hc
  | sl h ha hl hm hb hc => intro a N hx hb'; cases a <;> simp [AV.map] at hx; obtain ⟨rfl, rfl, rfl, rfl⟩ := hx; exact .sl (ρ := fun n => ρ (τ n)) hb' ha hl hm hb hc
  | nils => intro a N hx hb; cases a <;> simp [AV.map] at hx; exact .nils
  | nilp => intro a N hx hb; cases a <;> simp [AV.map] at hx; exact .nilp
  | nilf => intro a N hx hb; cases a <;> simp [AV.map] at hx; exact .nilf
  | nili => intro a N hx hb; cases a <;> simp [AV.map] at hx; exact .nili
  | nilm => intro a N hx hb; cases a <;> simp [AV.map] at hx; exact .nilm
  | lstI hl hm hc => intro a N hx hb; cases a <;> simp [AV.map] at hx; obtain ⟨rfl, rfl⟩ := hx; exact .lstI hl hm hc
  | lstS hl hm hc => intro a N hx hb; cases a <;> simp [AV.map] at hx; subst hx; exact .lstS hl hm hc
  | lst vs hl hm hr hc ih => intro a N hx hb; cases a <;> simp [AV.map] at hx; obtain ⟨rfl, rfl⟩ := hx; exact .lst vs hl hm (fun i x hi => z (hr i x hi)) hc
  | fn vs hr ih =>
    intro a N hx hb; cases a <;> simp [AV.map] at hx
    rename_i f cap
    obtain ⟨rfl, rfl⟩ := hx
    have e : ((AV.mapL τ cap).zipIdx.map fun (x, i) => shape x (vs i)) = (cap.zipIdx.map fun (x, i) => shape x (vs i)) := by
      simp [AV.mapL_eq, List.zipIdx_map, List.map_map, Function.comp_def, shape_map]
    rw [e]
    refine .fn vs (fun i x hi => ih i (x.map τ) ?_ x N rfl (AV.nmInL_get hb i x hi))
    simp [AV.mapL_eq, hi]
  | ifc h ih => intro a N hx hb; cases a <;> simp [AV.map] at hx; obtain ⟨rfl, rfl⟩ := hx; rw [shape_map]; exact .ifc (ih _ _ rfl hb)
  | mp h => intro a N hx hb; cases a <;> simp [AV.map] at hx; subst hx; exact .mp (ρ := fun n => ρ (τ n)) hb

end Sx
