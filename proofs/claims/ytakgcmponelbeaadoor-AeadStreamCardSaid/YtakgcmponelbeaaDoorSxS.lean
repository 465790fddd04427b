/- Rows that grow and are copied; strings and bytes. -/
import Derived.Test.YtakgcmponelbeaaDoorSxR
import Derived.Deep.AppendSrc
import Derived.Laws.MakeOwn
import Derived.Laws.BytesString
import Derived.Great.BuildSlice
set_option linter.unusedVariables false
set_option linter.unusedSimpArgs false
namespace Sx
open Go

def Row.len : Row → Nat
  | .ints _ xs => xs.length
  | .strs ss => ss.length
  | .avs _ l => l.length
def Row.sz : Row → Nat
  | .avs s _ => s
  | _ => 1
def Row.take (n : Nat) : Row → Row
  | .ints k xs => .ints k (xs.take n)
  | .strs ss => .strs (ss.take n)
  | .avs s l => .avs s (l.take n)
def Row.drop (n : Nat) : Row → Row
  | .ints k xs => .ints k (xs.drop n)
  | .strs ss => .strs (ss.drop n)
  | .avs s l => .avs s (l.drop n)
def Row.app : Row → Row → Option Row
  | .ints k xs, .ints k' ys => if k = k' then some (.ints k (xs ++ ys)) else none
  | .strs ss, .strs us => some (.strs (ss ++ us))
  | .avs s l, .avs s' l' => if s = s' then some (.avs s (l ++ l')) else none
  | _, _ => none

section
variable {ρ : Nat → Nat} {S : Nat → Prop} {w : World} {N : Nat → Prop}
theorem RowC.length {r : Row} {cs : List Value} (h : RowC ρ S w N r cs) : cs.length = r.len * r.sz := by
  induction h with
  | ints => simp [Row.len, Row.sz]
  | strs => simp [Row.len, Row.sz]
  | nil => simp [Row.len]
  | cons h1 hz _ ih => simp only [Row.len, Row.sz, List.length_append, List.length_cons] at *; rw [ih, hz, Nat.add_mul]; omega
theorem RowC.one {r : Row} {cs : List Value} (h : RowC ρ S w N r cs) : ∀ v ∈ cs, v.oneCell' = true := by
  induction h with
  | ints => intro v hv; rw [List.mem_map] at hv; obtain ⟨x, _, rfl⟩ := hv; rfl
  | strs => intro v hv; rw [List.mem_map] at hv; obtain ⟨x, _, rfl⟩ := hv; rfl
  | nil => intro v hv; cases hv
  | cons h1 _ _ ih => intro v hv; rcases List.mem_append.1 hv with h | h <;> first | exact h1.oneCell v h | exact ih v h
theorem RowC.take {r : Row} {cs : List Value} (h : RowC ρ S w N r cs) : ∀ n, RowC ρ S w N (r.take n) (cs.take (n * r.sz)) := by
  induction h with
  | ints => intro n; simp only [Row.take, Row.sz, Nat.mul_one, ← List.map_take]; exact .ints
  | strs => intro n; simp only [Row.take, Row.sz, Nat.mul_one, ← List.map_take]; exact .strs
  | nil => intro n; simp only [Row.take, List.take_nil]; exact .nil
  | @cons sz x l a b h1 hz _ ih =>
    intro n
    cases n with
    | zero => simp only [Row.take, List.take_zero, Nat.zero_mul]; exact .nil
    | succ n =>
      simp only [Row.take, Row.sz, List.take_succ_cons] at *
      have : (a ++ b).take ((n + 1) * sz) = a ++ b.take (n * sz) := by
        rw [List.take_append, List.take_of_length_le (by rw [hz, Nat.add_mul]; omega)]
        congr 2
        rw [hz, Nat.add_mul]; omega
      rw [this]
      exact .cons h1 hz (ih n)
theorem RowC.drop {r : Row} {cs : List Value} (h : RowC ρ S w N r cs) : ∀ n, RowC ρ S w N (r.drop n) (cs.drop (n * r.sz)) := by
  induction h with
  | ints => intro n; simp only [Row.drop, Row.sz, Nat.mul_one, ← List.map_drop]; exact .ints
  | strs => intro n; simp only [Row.drop, Row.sz, Nat.mul_one, ← List.map_drop]; exact .strs
  | nil => intro n; simp only [Row.drop, List.drop_nil]; exact .nil
  | @cons sz x l a b h1 hz h2 ih =>
    intro n
    cases n with
    | zero => simp only [Row.drop, List.drop_zero, Nat.zero_mul]; exact .cons h1 hz h2
    | succ n =>
      simp only [Row.drop, Row.sz, List.drop_succ_cons] at *
      have : (a ++ b).drop ((n + 1) * sz) = b.drop (n * sz) := by
        rw [List.drop_append, List.drop_of_length_le (by rw [hz, Nat.add_mul]; omega), List.nil_append]
        congr 1
        rw [hz, Nat.add_mul]; omega
      rw [this]
      exact ih n
theorem RowC.app {r s u : Row} {a b : List Value} (h : RowC ρ S w N r a) (hs : RowC ρ S w N s b) (hu : Row.app r s = some u) : RowC ρ S w N u (a ++ b) := by
  induction h generalizing u with
  | ints =>
    cases hs <;> simp only [Row.app] at hu <;> first | (cases hu; done) | skip
    split at hu
    · next hk => subst hk; cases hu; rw [← List.map_append]; exact .ints
    · cases hu
  | strs =>
    cases hs <;> simp only [Row.app] at hu <;> first | (cases hu; done) | skip
    cases hu; rw [← List.map_append]; exact .strs
  | nil =>
    cases s <;> simp only [Row.app] at hu <;> first | (cases hu; done) | skip
    split at hu
    · next hk => subst hk; cases hu; simpa using hs
    · cases hu
  | cons h1 hz _ ih =>
    cases s <;> simp only [Row.app] at hu <;> first | (cases hu; done) | skip
    split at hu
    · next hk =>
      subst hk; cases hu
      rw [List.append_assoc]
      exact .cons h1 hz (ih (by simp [Row.app]))
    · cases hu
theorem Row.app_len {r s u : Row} (hu : Row.app r s = some u) : u.len = r.len + s.len ∧ u.sz = r.sz ∧ s.sz = r.sz := by
  cases r <;> cases s <;> simp only [Row.app] at hu <;> first | (cases hu; done) | skip
  · split at hu
    · cases hu; simp [Row.len, Row.sz]
    · cases hu
  · cases hu; simp [Row.len, Row.sz]
  · split at hu
    · next hk => cases hu; simp [Row.len, Row.sz, hk]
    · cases hu
theorem Row.take_sz (r : Row) (n : Nat) : (r.take n).sz = r.sz := by cases r <;> rfl
theorem Row.drop_sz (r : Row) (n : Nat) : (r.drop n).sz = r.sz := by cases r <;> rfl
theorem Row.drop_len (r : Row) (n : Nat) : (r.drop n).len = r.len - n := by
  cases r <;> simp only [Row.len, Row.drop] at * <;> simp
theorem Row.take_len (r : Row) {n : Nat} (h : n ≤ r.len) : (r.take n).len = n := by
  cases r <;> simp only [Row.len, Row.take] at * <;> simp [h]
end

/-- A slice's elements, as a row. -/
def rowOf (te : TI) : AV → Option Row
  | .lstI k xs => some (.ints k xs)
  | .lstS ss => some (.strs ss)
  | .lst sz l => some (.avs sz l)
  | .nils => match te.kd with
    | .int k => some (.ints k [])
    | .str => some (.strs [])
    | _ => some (.avs te.size [])
  | .str s => some (.ints .u8 (bytesOf s))
  | _ => none
def srcQ (te : TI) (e : Ents) (y : AV) : Q Row :=
  match y with
  | .sl nm sz off len => opt (lk e nm) fun x => opt x.row fun r => req (sz = te.size ∧ r.sz = te.size ∧ off + len ≤ r.len) (ret ((r.drop off).take len))
  | y => opt (rowOf te y) fun r => req (r.sz = te.size) (ret r)

section
variable {P : Program} {tt : Nat → Option TI} {G : Nat → Option AV} {t : Tms} {e : Ents} {nb : Nat} {dst : Option Tmp} {ty : TypeId} {pos : String} {after : Array Edge} {gd : Option (Nat × Bool)}

theorem byteCells_bytesOf (s : ByteArray) : byteCells s = (bytesOf s).map (Value.int .u8) := by
  unfold byteCells bytesOf; simp

theorem lst_cells {ρ : Nat → Nat} {S : Nat → Prop} {w : World} {N : Nat → Prop} {sz : Nat} : ∀ {l : List AV} {vs : Nat → List Value}, (∀ i x, l[i]? = some x → RC ρ S w N x (vs i) ∧ (vs i).length = sz) →
    ∃ news, RowC ρ S w N (.avs sz l) news ∧ news.length = l.length * sz ∧ ∀ j u, news[j]? = some u → ∃ i q x, l[i]? = some x ∧ q < sz ∧ j = i * sz + q ∧ (vs i)[q]? = some u
  | [], vs, _ => ⟨[], .nil, by simp, fun j u h => by simp at h⟩
  | x :: l, vs, h => by
    obtain ⟨news, g1, g2, g3⟩ := lst_cells (l := l) (vs := fun i => vs (i + 1)) (fun i y hy => h (i + 1) y (by simpa using hy))
    obtain ⟨h1, h2⟩ := h 0 x rfl
    refine ⟨vs 0 ++ news, .cons h1 h2 g1, by simp [h2, g2, Nat.add_mul]; omega, fun j u hj => ?_⟩
    by_cases hq : j < (vs 0).length
    · rw [List.getElem?_append_left hq] at hj
      exact ⟨0, j, x, rfl, by omega, by simp, hj⟩
    · rw [List.getElem?_append_right (by omega)] at hj
      obtain ⟨i, q, y, k1, k2, k3, k4⟩ := g3 _ u hj
      exact ⟨i + 1, q, y, by simpa using k1, k2, by rw [Nat.add_mul]; omega, k4⟩

/-- What comes first of it. -/
def Pre (P : Program) (size : Nat) (x : Value) (n : Nat) (news : List Value) (w : World) : Prop := ∀ m, m ≤ n → (Builtin.firstCells size m x).run P w = .ok (news.take (m * size)).toArray w
theorem srcSlice (w : World) {size : Nat} {tx e' : TypeId} (hk : P.underlying tx = some (.slice e')) (a : Addr) (n c : Nat) (news : List Value) (hl : news.length = n * size) (hnews : ∀ (j : Nat) (u : Value), news[j]? = some u → w.cell? (a.add j) = some u)
    (h1 : ∀ u ∈ news, u.oneCell' = true) : Src P size tx (.slice (some a) n c) n news w ∧ Pre P size (.slice (some a) n c) n news w := by
  refine ⟨Src.ofSlice w hk a n c news hl hnews h1, fun m hm => run_firstCells_some w size m a n c _ ?_ (fun j v hj => ?_)⟩
  · rw [List.length_take, hl]
    have : m * size ≤ n * size := Nat.mul_le_mul_right _ hm
    omega
  · rw [List.getElem?_take] at hj
    split at hj
    · exact hnews j v hj
    · cases hj
theorem srcNil (w : World) {size : Nat} {tx e' : TypeId} (hk : P.underlying tx = some (.slice e')) (c : Nat) : Src P size tx (.slice none 0 c) 0 [] w ∧ Pre P size (.slice none 0 c) 0 [] w :=
  ⟨Src.ofNil w hk c, fun m hm => by rw [run_firstCells_none]; simp⟩
theorem srcStr (w : World) {tx : TypeId} (hk : P.underlying tx = some .string) (s : ByteArray) : Src P 1 tx (.string s) s.size (byteCells s) w ∧ Pre P 1 (.string s) s.size (byteCells s) w := by
  refine ⟨Src.ofString w hk s, fun m hm => ?_⟩
  have : ((s.extract 0 m).data.map fun b => Value.int .u8 b.toNat) = ((byteCells s).take (m * 1)).toArray := by
    apply Array.ext'
    simp [byteCells, List.map_take]
  simp only [Builtin.firstCells, Sem.run_pure, this]

/-- What a source yields. -/
theorem src_run {B : Nat → Prop} {ρ : Nat → Nat} {D : Nat → Prop} {a : Act} {w : World} {t' : Tms} {e' : Ents} (hg : Good B G ρ D t' e' a w) (hle : Le e e') {te : TI} {y : AV} {u : Value} {r : Row} (hy : RV ρ (Stab B ρ e' w) w D y u) (h : Ok (srcQ te e y) r)
    {tx : TypeId} (hkd : (∃ s, y = .str s) → P.underlying tx = some .string) (hks : (∀ s, y ≠ .str s) → ∃ e', P.underlying tx = some (.slice e')) :
    ∃ news, (Src P te.size tx u r.len news w ∧ Pre P te.size u r.len news w) ∧ RowC ρ (Stab B ρ e' w) w D r news ∧ r.sz = te.size := by
  cases y <;> simp only [srcQ, rowOf] at h <;> first | exact h.none.elim | (obtain ⟨_, h9, _⟩ := h.opt; cases h9; done) | skip
  case str s =>
    obtain ⟨r', h2, h⟩ := h.opt
    obtain ⟨hsz, h⟩ := h.req
    have := h.ret; subst this
    cases h2
    have hks := hkd ⟨s, rfl⟩
    have hl : (bytesOf s).length = s.size := by simp [bytesOf]
    refine ⟨byteCells s, ?_, by rw [byteCells_bytesOf]; exact .ints, hsz⟩
    simp only [Row.len, hl]
    rw [← hsz, hy.str_inv]
    exact srcStr w hks s
  case sl nm sz off len =>
    obtain ⟨x, hx, h⟩ := h.opt
    obtain ⟨r', hr', h⟩ := h.opt
    obtain ⟨⟨h1, h2, h3⟩, h⟩ := h.req
    have := h.ret; subst this
    obtain ⟨e2, hk2⟩ := hks (fun s hs => by cases hs)
    obtain ⟨cs0, hu, hr⟩ := hy.inv (by simp)
    subst hu
    cases hr with
    | sl hn ha hl hm hb hc =>
    rename_i cap a n0
    obtain ⟨c, T', cs, g1, g2, g3⟩ := view_cells (hg.mem.en _ _ (hle _ _ hx)).2 hr'
    have hlen := g2.length
    have hrow := (g2.drop off).take len
    rw [Row.drop_sz, h2] at hrow
    refine ⟨_, ?_, hrow, by rw [Row.take_sz, Row.drop_sz, h2]⟩
    rw [Row.take_len _ (by rw [Row.drop_len]; omega)]
    have hcs : ∀ (j : Nat) (u : Value), cs[j]? = some u → c[j]? = some u := by
      intro j u hj
      have hlt := (List.getElem?_eq_some_iff.1 hj).1
      rw [← g3, List.getElem?_take, if_pos hlt] at hj
      simpa using hj
    refine srcSlice w hk2 a len cap _ ?_ (fun j u hj => ?_) hrow.one
    · rw [List.length_take, List.length_drop, hlen, h2, ← Nat.sub_mul]
      have : len * te.size ≤ (r'.len - off) * te.size := Nat.mul_le_mul_right _ (by omega)
      omega
    · rw [List.getElem?_take] at hj
      split at hj
      · next hlt =>
        rw [List.getElem?_drop] at hj
        rcases ha with rfl | ⟨h0, _, _⟩
        · rw [addr_add, h1, g1.cell]
          exact hcs _ _ hj
        · have : len = 0 := by omega
          subst this; omega
      · cases hj
  case nils =>
    obtain ⟨r', h2, h⟩ := h.opt
    obtain ⟨hsz, h⟩ := h.req
    have := h.ret; subst this
    obtain ⟨e2, hk2⟩ := hks (fun s hs => by cases hs)
    obtain ⟨cs0, hu, hr⟩ := hy.inv (by simp)
    subst hu
    cases hr
    have key : r'.len = 0 ∧ RowC ρ (Stab B ρ e' w) w D r' [] := by
      split at h2 <;> (cases h2; exact ⟨rfl, by constructor⟩)
    rw [key.1]
    exact ⟨[], srcNil w hk2 0, key.2, hsz⟩
  case lstI k xs =>
    obtain ⟨r', h2, h⟩ := h.opt
    obtain ⟨hsz, h⟩ := h.req
    have := h.ret; subst this
    obtain ⟨e2, hk2⟩ := hks (fun s hs => by cases hs)
    obtain ⟨cs0, hu, hr⟩ := hy.inv (by simp)
    subst hu
    cases hr with
    | lstI hl hm hc =>
    rename_i a' cap
    cases h2
    refine ⟨xs.map (Value.int k), ?_, .ints, hsz⟩
    rw [← hsz]
    cases a' with
    | none =>
      have : xs = [] := by
        cases xs with
        | nil => rfl
        | cons x xs => obtain ⟨b, o, h3, _⟩ := hc 0 x rfl; cases h3
      subst this
      exact srcNil w hk2 cap
    | some a' =>
      refine srcSlice w hk2 a' xs.length cap _ (by simp [Row.sz]) (fun j u hj => ?_) (fun u hu => by rw [List.mem_map] at hu; obtain ⟨x, _, rfl⟩ := hu; rfl)
      rw [List.getElem?_map, Option.map_eq_some_iff] at hj
      obtain ⟨x, hx, rfl⟩ := hj
      obtain ⟨b, o, h3, _, h4⟩ := hc j x hx
      cases h3
      simpa [addr_add] using h4
  case lstS ss =>
    obtain ⟨r', h2, h⟩ := h.opt
    obtain ⟨hsz, h⟩ := h.req
    have := h.ret; subst this
    obtain ⟨e2, hk2⟩ := hks (fun s hs => by cases hs)
    obtain ⟨cs0, hu, hr⟩ := hy.inv (by simp)
    subst hu
    cases hr with
    | lstS hl hm hc =>
    rename_i a' cap
    cases h2
    refine ⟨ss.map Value.string, ?_, .strs, hsz⟩
    rw [← hsz]
    cases a' with
    | none =>
      have : ss = [] := by
        cases ss with
        | nil => rfl
        | cons x xs => obtain ⟨b, o, h3, _⟩ := hc 0 x rfl; cases h3
      subst this
      exact srcNil w hk2 cap
    | some a' =>
      refine srcSlice w hk2 a' ss.length cap _ (by simp [Row.sz]) (fun j u hj => ?_) (fun u hu => by rw [List.mem_map] at hu; obtain ⟨x, _, rfl⟩ := hu; rfl)
      rw [List.getElem?_map, Option.map_eq_some_iff] at hj
      obtain ⟨x, hx, rfl⟩ := hj
      obtain ⟨b, o, h3, _, h4⟩ := hc j x hx
      cases h3
      simpa [addr_add] using h4
  case lst sz l =>
    obtain ⟨r', h2, h⟩ := h.opt
    obtain ⟨hsz, h⟩ := h.req
    have := h.ret; subst this
    obtain ⟨e2, hk2⟩ := hks (fun s hs => by cases hs)
    obtain ⟨cs0, hu, hr⟩ := hy.inv (by simp)
    subst hu
    cases hr with
    | lst vs hl hm hr' hc =>
    rename_i a' cap
    cases h2
    obtain ⟨news, g1, g2, g3⟩ := lst_cells (N := D) (fun i x hx => ⟨(hr' i x hx).mono (Evo.refl w) D (fun n h => h.elim), (hc i x hx).1⟩)
    refine ⟨news, ?_, g1, hsz⟩
    rw [← hsz]
    cases a' with
    | none =>
      have : l = [] := by
        cases l with
        | nil => rfl
        | cons x xs => obtain ⟨_, b, o, h3, _⟩ := hc 0 x rfl; cases h3
      subst this
      have : news = [] := List.eq_nil_of_length_eq_zero (by simp [g2])
      subst this
      exact srcNil w hk2 cap
    | some a' =>
      refine srcSlice w hk2 a' l.length cap _ (by simp [Row.sz, g2]) (fun j u hj => ?_) g1.one
      obtain ⟨i, q, x, hx, hq, hjq, huu⟩ := g3 j u hj
      obtain ⟨_, b, o, h3, _, h4⟩ := hc i x hx
      cases h3
      have := h4 q u huu
      rw [hjq]
      simpa [addr_add, Nat.add_assoc] using this

/-! ### append -/

def appQ (tt : Nat → Option TI) (e : Ents) (nb T : Nat) (x y : AV) : Q (AV × Del) :=
  opt (tt T) fun ti => match ti.kd with
  | .slice el => opt (tt el) fun te => bnd (srcQ te e y) fun s =>
    match x with
    | .nils => if s.len = 0 then ret (.nils, []) else req (s.len ≠ 0 ∧ s.len ≤ 140737488355328 ∧ s.len * te.bytes ≤ 140737488355328) (ret (.sl nb te.size 0 s.len, [(nb, some (.vec el s))]))
    | .sl nm sz off len => opt (lk e nm) fun z => match z with
      | .vec T' r => opt (Row.app (r.take len) s) fun r' => req (sz = te.size ∧ off = 0 ∧ len ≤ r.len ∧ T' = el ∧ len + s.len ≤ 140737488355328 ∧ (len + s.len) * te.bytes ≤ 140737488355328)
          (ret (.sl nb sz 0 (len + s.len), [(nm, none), (nb, some (.vec el r'))]))
      | _ => none
    | _ => none
  | _ => none

theorem app_run (hTT : TT P tt) {B : Nat → Prop} {ρ : Nat → Nat} {D : Nat → Prop} {a : Act} {w : World} {t' : Tms} {e' : Ents} (hg : Good B G ρ D t' e' a w) (hle : Le e e') (hD : ∀ n, nb ≤ n → n < nb + 16 → ¬ D n)
    {T tx : Nat} {x y v : AV} {d : Del} {ux uy : Value} (hx : RV ρ (Stab B ρ e' w) w D x ux) (hy : RV ρ (Stab B ρ e' w) w D y uy) (h : Ok (appQ tt e nb T x y) (v, d)) (U : TypeId)
    (hkd : (∃ s, y = .str s) → P.underlying tx = some .string) (hks : (∀ s, y ≠ .str s) → ∃ e', P.underlying tx = some (.slice e')) :
    ∃ u w', (Builtin.append_ #[T, tx] U #[ux, uy]).run P w = .ok u w' ∧ Post B ρ D e' w nb v d u w' := by
  unfold appQ at h
  have hh := h.opt
  clear h
  obtain ⟨ti, h1, h⟩ := hh
  split at h
  rotate_left
  · exact h.none.elim
  next el hk =>
  have hh := h.opt
  clear h
  obtain ⟨te, h2, h⟩ := hh
  have hh := h.bnd
  clear h
  obtain ⟨s, h3, h⟩ := hh
  obtain ⟨news, ⟨hsrc, _⟩, hrow, hssz⟩ := src_run hg hle hy h3 hkd hks
  have hu := (hTT _ _ h1).uslice hk
  obtain ⟨i, hi, hisz, hiby, hiz⟩ := (hTT _ _ h2).info
  have hzc := (RC.conc ρ (Stab B ρ e' w) w D te.z (hTT _ _ h2).pl)
  have hzsz : (shape te.z (conc te.z)).cells.size = te.size := by rw [hzc.cells]; simpa using (hTT _ _ h2).zs
  have hnl := hsrc.newsLen
  -- a new row
  have grow : ∀ (base : Option Addr) (sLen sCap : Nat) (olds : List Value) (r : Row), ux = .slice base sLen sCap → (Builtin.firstCells i.size sLen (.slice base sLen sCap)).run P w.drew = .ok olds.toArray w.drew → olds.length = sLen * te.size → sCap < sLen + s.len →
      sLen + s.len ≤ 140737488355328 → (sLen + s.len) * te.bytes ≤ 140737488355328 →
      ∃ c : Array Value, (Builtin.append_ #[T, tx] U #[ux, uy]).run P w = .ok (.slice (some ⟨w.heap.size, 0, none⟩) (sLen + s.len) (grownCap w (sLen + s.len) sCap el)) (w.drew.alloc (.cells c el)) ∧
        c.size = grownCap w (sLen + s.len) sCap el * te.size ∧ c.toList.take (olds ++ news).length = olds ++ news ∧ sLen + s.len ≤ grownCap w (sLen + s.len) sCap el ∧ grownCap w (sLen + s.len) sCap el ≤ maxLen := by
    intro base sLen sCap olds r hux hold hol hcap hb1 hb2
    subst hux
    have hrun := run_append_grow_src (P := P) w T tx U el i _ hu hi hiz base sLen sCap olds hold uy s.len news (by rw [hisz]; exact hsrc) hcap (by omega) (by rw [hiby]; exact growslice_fits hcap hb2)
    have hge := grownCap_ge w (sLen + s.len) sCap el
    have hml := grownCap_le_maxLen w (sLen + s.len) sCap el (by simp only [maxLen]; omega)
    refine ⟨_, hrun, ?_, ?_, hge, hml⟩
    · simp only [Array.size_append, List.size_toArray, size_zeroCells, hzsz, List.length_append, hol, hnl]
      rw [← Nat.add_mul, ← Nat.add_mul]
      congr 1; omega
    · rw [Array.toList_append, List.toList_toArray, List.take_append_of_le_length (Nat.le_refl _), List.take_length]
  split at h
  · -- onto nil
    by_cases hn0 : s.len = 0
    · rw [if_pos hn0] at h
      cases h.ret
      obtain ⟨cs0, e0, r0⟩ := hx.inv (by simp)
      subst e0
      cases r0
      have hnews : news = [] := List.eq_nil_of_length_eq_zero (by rw [hnl, hn0, Nat.zero_mul])
      subst hnews
      rw [hn0] at hsrc
      simp only [shape, AV.isAgg, cond_false, List.headD_cons]
      have hrun : (Builtin.append_ #[T, tx] U #[.slice none 0 0, uy]).run P w = .ok (.slice none 0 0) w := by
        rcases hsrc.kind with ⟨e', hk⟩ | hk <;> simp [Builtin.append_, run_underlying hu, run_underlying hk, (hTT _ _ h2).run_size, hsrc.len, hsrc.cells]
      exact ⟨_, _, hrun, Post.pure hg.mem (RV.one (cs := [_]) .nils)⟩
    rw [if_neg hn0] at h
    have hh := h.req
    clear h
    obtain ⟨⟨h4, h5, h6⟩, h⟩ := hh
    have hq := h.ret
    cases hq
    obtain ⟨cs0, e0, r0⟩ := hx.inv (by simp)
    subst e0
    cases r0
    obtain ⟨c, g1, g2, g3, g4, g5⟩ := grow none 0 0 [] s rfl (run_firstCells_none w.drew _ _ _ _) (by simp) (by omega) (by omega) (by rw [Nat.zero_add]; exact h6)
    refine ⟨_, _, g1, ?_⟩
    simp only [Nat.zero_add, List.nil_append] at g1 g2 g3 g4 g5 ⊢
    obtain ⟨hm1, he1⟩ := hg.mem.same (w' := w.drew) rfl rfl rfl rfl
    obtain ⟨ρ', q1, q2, q3⟩ := hm1.alloc nb (hD nb (Nat.le_refl _) (by omega)) (.cells c el) (.vec el s) (e' := ap [(nb, some (.vec el s))] e') (fun m => lk_up e' nb (some (.vec el s)) m)
      (fun ρ' D' hag hevo => .vec (hrow.mono (he1.evo.trans hevo) hag) (Cel.new w.drew _ _) g3)
    refine ⟨ρ', _, fun n hn => hn.imp id (fun q => by subst q; omega), ?_, q2, he1.trans q3⟩
    have hb : Rw (w.drew.alloc (.cells c el)) (ρ' nb) c.size := by rw [q1]; exact (Cel.new w.drew _ _).rw
    have := RV.one (RC.sl (S := Stab B ρ' (ap [(nb, some (.vec el s))] e') (w.drew.alloc (.cells c el))) (N := fun n => D n ∨ n = nb) (nm := nb) (sz := te.size) (off := 0) (len := s.len) (.inr rfl) (.inl rfl) g4 g5 hb (by rw [g2, Nat.zero_add]))
    rw [q1] at this
    rw [Nat.zero_mul] at this
    exact this
  · -- onto one's own
    next nm sz off len =>
    have hh := h.opt
    clear h
    obtain ⟨z, hz, h⟩ := hh
    split at h
    rotate_left
    · exact h.none.elim
    next T' r =>
    have hh := h.opt
    clear h
    obtain ⟨r', hr', h⟩ := hh
    have hh := h.req
    clear h
    obtain ⟨⟨h4, h5, h6, h7, h8, h9⟩, h⟩ := hh
    have hq := h.ret
    cases hq
    subst h4 h5 h7
    obtain ⟨al1, al2, al3⟩ := Row.app_len hr'
    rw [Row.take_sz] at al2 al3
    obtain ⟨cs0, e0, r0⟩ := hx.inv (by simp)
    subst e0
    cases r0 with
    | sl hn ha hl hm hb hc =>
    rename_i cap b n0
    have hz' := hle _ _ hz
    cases (hg.mem.en _ _ hz').2 with
    | vec hrow0 hb0 htake =>
    rename_i cs c
    have hn0 : n0 = c.size := by
      obtain ⟨c1, T1, fr1, e1, e2⟩ := hb
      obtain ⟨fr2, e3, _⟩ := hb0
      rw [e1] at e3; cases e3; exact e2.symm
    subst hn0
    have hcsl := hrow0.length
    have hrt := (hrow0.take len)
    rw [← al3, hssz] at hrt hcsl
    have hcsle : cs.length ≤ c.size := by
      have := congrArg List.length htake; rw [List.length_take] at this; simp at this; omega
    have holdl : (cs.take (len * te.size)).length = len * te.size := by
      rw [List.length_take, hcsl]
      have : len * te.size ≤ r.len * te.size := Nat.mul_le_mul_right _ h6
      omega
    have hcs : ∀ (j : Nat) (u : Value), cs[j]? = some u → c[j]? = some u := by
      intro j u hj
      have hlt := (List.getElem?_eq_some_iff.1 hj).1
      rw [← htake, List.getElem?_take, if_pos hlt] at hj
      simpa using hj
    have hbq : ∃ q, b = ⟨ρ nm, q, none⟩ ∧ (q = 0 ∨ cap = 0) := by
      rcases ha with ha | ⟨h0, ha1, ha2⟩
      · exact ⟨0, by simpa using ha, .inl rfl⟩
      · obtain ⟨bb, bo, bs⟩ := b
        simp only at ha1 ha2
        subst ha1 ha2
        exact ⟨bo, rfl, .inr h0⟩
    obtain ⟨q, rfl, hq0⟩ := hbq
    have hnew : RowC ρ (Stab B ρ e' w) w D r' (cs.take (len * te.size) ++ news) := hrt.app hrow hr'
    by_cases hroom : len + s.len ≤ cap
    · -- there is room
      have hq : news = [] ∨ q = 0 := by
        rcases hq0 with h | h
        · exact .inr h
        · left
          have : s.len = 0 := by omega
          exact List.eq_nil_of_length_eq_zero (by rw [hnl, this, Nat.zero_mul])
      have hfit : len * te.size + news.length ≤ c.size := by
        rw [hnl, ← Nat.add_mul, ← hc, Nat.zero_add]
        exact Nat.mul_le_mul_right _ hroom
      have hrun : (Builtin.append_ #[T, tx] U #[.slice (some ⟨ρ nm, q, none⟩) len cap, uy]).run P w = .ok (.slice (some ⟨ρ nm, q, none⟩) (len + s.len) cap) (w.setRow (ρ nm) (c.toList.take (len * te.size) ++ news ++ c.toList.drop (len * te.size + news.length)).toArray) := by
        rw [← hb0.storeCells hfit]
        have hX := run_append_room_src (P := P) w T tx U _ i hu hi (ρ nm) q len cap uy s.len news (by rw [hisz]; exact hsrc) hroom
          (fun j hj => by
            have hj' : q + len * i.size + j < c.size := by
              rcases hq with h | h
              · subst h; simp at hj
              · subst h; rw [hisz]; omega
            rw [hb0.cell]; simp [hj'])
          (fun j hj => hb0.frozen (by
            rcases hq with h | h
            · subst h; simp at hj
            · subst h; rw [hisz]; omega))
        rw [hX]
        congr 1
        rcases hq with h | h
        · subst h; rfl
        · subst h; rw [hisz, Nat.zero_add]
      refine ⟨_, _, hrun, ?_⟩
      have hlen' : (c.toList.take (len * te.size) ++ news ++ c.toList.drop (len * te.size + news.length)).length = c.size := by
        simp; omega
      have hheap := hb0.setRow (c' := (c.toList.take (len * te.size) ++ news ++ c.toList.drop (len * te.size + news.length)).toArray) (by simpa using hlen')
      obtain ⟨ρ', q1, q2, q3⟩ := hg.mem.move (nb := nb) (g := ρ nm) (x' := .vec T' r') (e' := ap [(nm, none), (nb, some (.vec T' r'))] e') (w' := w.setRow (ρ nm) (c.toList.take (len * te.size) ++ news ++ c.toList.drop (len * te.size + news.length)).toArray) hz' (hD nb (Nat.le_refl _) (by omega))
        (fun n => by simp only [ap]; rw [lk_up, lk_up]) (fun b _ hb' => setRow_other w _ _ _ hb') (by rw [size_setRow]; exact Nat.le_refl _) rfl rfl rfl
        (fun n hn => hn.setRow (by simpa using hlen') hb0) (.inl rfl)
        (fun ρ' D' hag hevo => .vec (hnew.mono hevo hag) hheap (by
          have e1 : c.toList.take (len * te.size) = cs.take (len * te.size) := by
            conv => rhs; rw [← htake]
            rw [List.take_take]
            congr 1
            rw [List.length_take] at holdl; omega
          rw [List.toList_toArray, e1, List.take_append_of_le_length (Nat.le_refl _), List.take_length]))
      refine ⟨ρ', _, fun n hn => hn.imp id (fun q => by subst q; omega), ?_, q2, q3⟩
      rw [← q1]
      refine RV.one (RC.sl (.inr rfl) ?_ (by omega) hm (by rw [q1]; exact hheap.rw) (by simp only [Nat.zero_add] at hc ⊢; rw [hc]; simpa using hlen'.symm))
      rcases hq0 with h | h
      · left; subst h; simp
      · right; exact ⟨h, rfl, rfl⟩
    · -- there is none
      have hold : (Builtin.firstCells i.size len (.slice (some ⟨ρ nm, q, none⟩) len cap)).run P w.drew = .ok (cs.take (len * te.size)).toArray w.drew := by
        rw [hisz]
        refine run_firstCells_some w.drew te.size len _ len cap _ holdl (fun j u hj => ?_)
        rw [List.getElem?_take] at hj
        split at hj
        · next hlt =>
          rcases hq0 with h | h
          · subst h
            rw [addr_add, Nat.zero_add]
            show w.cell? ⟨ρ nm, j, none⟩ = _
            rw [hb0.cell]; exact hcs _ _ hj
          · have : len = 0 := by omega
            subst this; omega
        · cases hj
      obtain ⟨c2, g1, g2, g3, g4, g5⟩ := grow (some ⟨ρ nm, q, none⟩) len cap (cs.take (len * te.size)) r' rfl hold holdl (by omega) h8 h9
      refine ⟨_, _, g1, ?_⟩
      obtain ⟨ρ', q1, q2, q3⟩ := hg.mem.move (nb := nb) (g := w.heap.size) (x' := .vec T' r') (e' := ap [(nm, none), (nb, some (.vec T' r'))] e') (w' := w.drew.alloc (.cells c2 T')) hz' (hD nb (Nat.le_refl _) (by omega))
        (fun n => by simp only [ap]; rw [lk_up, lk_up]) (fun b hb1 _ => alloc_old w.drew _ b hb1) (by show w.heap.size ≤ (w.heap.push _).size; simp) rfl rfl rfl
        (fun n hn => hn.congr (alloc_old w.drew _ _ hn.lt)) (.inr (Nat.le_refl _))
        (fun ρ' D' hag hevo => .vec (hnew.mono hevo hag) (Cel.new w.drew _ _) g3)
      refine ⟨ρ', _, fun n hn => hn.imp id (fun q => by subst q; omega), ?_, q2, q3⟩
      have hb2 : Rw (w.drew.alloc (.cells c2 T')) (ρ' nb) c2.size := by rw [q1]; exact (Cel.new w.drew _ _).rw
      rw [← q1]
      exact RV.one (RC.sl (.inr rfl) (.inl (by simp)) g4 g5 hb2 (by rw [g2, Nat.zero_add]))
  · exact h.none.elim

end
end Sx
