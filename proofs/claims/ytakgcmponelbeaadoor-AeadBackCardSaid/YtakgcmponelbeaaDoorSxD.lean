/- One operation, symbolically: the frame, and operations on memory. -/
import Derived.Test.YtakgcmponelbeaaDoorSxC
import Derived.Laws.IdiomCopy
set_option linter.unusedVariables false
set_option linter.unusedSimpArgs false
namespace Sx
open Go

def er (e : Ents) (n : Nat) : Ents :=
  match e with
  | [] => []
  | (k, x) :: l => if k = n then er l n else (k, x) :: er l n
def up (e : Ents) (n : Nat) : Option Ent → Ents
  | some x => (n, x) :: er e n
  | none => er e n
abbrev Del := List (Nat × Option Ent)
def ap : Del → Ents → Ents
  | [], e => e
  | (n, x) :: d, e => ap d (up e n x)

theorem lk_er (e : Ents) (n m : Nat) : lk (er e n) m = if n = m then none else lk e m := by
  induction e with
  | nil => simp [er, lk]
  | cons p e ih =>
    obtain ⟨k, x⟩ := p
    simp only [er]
    split
    · next h => subst h; rw [ih]; simp only [lk]; split <;> simp_all
    · next h =>
      simp only [lk]
      split
      · next h2 => subst h2; rw [if_neg (fun q => h q.symm)]
      · next h2 => rw [ih]
theorem lk_up (e : Ents) (n : Nat) (x : Option Ent) (m : Nat) : lk (up e n x) m = if n = m then x else lk e m := by
  cases x with
  | none => exact lk_er e n m
  | some x => simp only [up, lk]; split <;> simp_all [lk_er]

abbrev Tms := List (Nat × AV)

structure Good (B : Nat → Prop) (G : Nat → Option AV) (ρ : Nat → Nat) (D : Nat → Prop) (t : Tms) (e : Ents) (a : Act) (w : World) : Prop where
  mem : Mem B ρ D e w
  tm : ∀ i x, lk t i = some x → ∃ v, a.tmps[i]? = some v ∧ RV ρ (Stab B ρ e w) w D x v
  big : ∀ b, w.heap.size ≤ b → B b
  gl : ∀ g x, G g = some x → RC ρ (Stab B ρ e w) w NoNm (.pel x) [.pointer (some ⟨g, 0, none⟩)]

def Le {α : Type} (t t' : List (Nat × α)) : Prop := ∀ i x, lk t i = some x → lk t' i = some x

def ofV : Value → Option AV
  | .int k n => some (.int k n)
  | .bool b => some (.bool b)
  | .string s => some (.str s)
  | .slice none 0 0 => some .nils
  | .pointer none => some .nilp
  | .nilFunc => some .nilf
  | .nilIface => some .nili
  | .map none => some .nilm
  | _ => none

def ev (G : Nat → Option AV) (t : Tms) : Operand → Option AV
  | .tmp i => lk t i
  | .const v => ofV v
  | .global g => (G g).map .pel
  | .func f => some (.fn (.func f) [])

theorem shape_one {a : AV} {v : Value} (h : a.isAgg = false) : shape a [v] = v := by simp [shape, h]

theorem ofV_sound {ρ : Nat → Nat} {S : Nat → Prop} {w : World} {N : Nat → Prop} {v : Value} {x : AV} (h : ofV v = some x) : RV ρ S w N x v := by
  unfold ofV at h
  split at h <;> first | (cases h; done) | skip
  all_goals cases h
  · exact .one (.int)
  · exact .one (.bool)
  · exact .one (.str)
  · exact .one (.nils)
  · exact .one (.nilp)
  · exact .one (.nilf)
  · exact .one (.nili)
  · exact .one (.nilm)

theorem ev_sound {B : Nat → Prop} {G : Nat → Option AV} {ρ : Nat → Nat} {D : Nat → Prop} {t t' : Tms} {e : Ents} {a : Act} {w : World} (hg : Good B G ρ D t' e a w) (hl : Le t t') {x : Operand} {v : AV} (h : ev G t x = some v) :
    RV ρ (Stab B ρ e w) w D v (a.eval x) := by
  cases x with
  | tmp i =>
    obtain ⟨u, h1, h2⟩ := hg.tm i v (hl i v h)
    simp only [Act.eval, Array.getD_eq_getD_getElem?, h1, Option.getD_some]
    exact h2
  | const u => exact ofV_sound h
  | «global» g =>
    simp only [ev, Option.map_eq_some_iff] at h
    obtain ⟨y, hy, rfl⟩ := h
    exact .one (cs := [_]) ((hg.gl g y hy).mono (Evo.refl w) D (fun _ h => h.elim))
  | func f => cases h; exact .one (cs := [_]) (RC.fn (cap := []) (fun _ => []) (fun i x hi => by simp at hi))

/-- What holds behind an operation. -/
def Post (B : Nat → Prop) (ρ : Nat → Nat) (D : Nat → Prop) (e : Ents) (w : World) (nb : Nat) (v : AV) (d : Del) (x : Value) (w' : World) : Prop :=
  ∃ ρ' D', (∀ n, D' n → D n ∨ (nb ≤ n ∧ n < nb + 16)) ∧ RV ρ' (Stab B ρ' (ap d e) w') w' D' v x ∧ Mem B ρ' D' (ap d e) w' ∧ Evol B ρ D e w ρ' D' (ap d e) w'

/-- The operation runs to its end. -/
inductive Runs (P : Program) (o : Oper) (a : Act) (w : World) (post : Value → World → Prop) : Prop
  | value {x w'} (h : (execOp a.eval o).run P w = .ok (.value x) w') (hp : post x w')
  | skip {w'} (h : (execOp a.eval o).run P w = .ok .skip w') (hp : post undef w')
  | enter {f args w'} (h : (execOp a.eval o).run P w = .ok (.enter f args) w') (hp : Calls P f args w' fun e w'' => ∃ x, e = .returned x ∧ post x w'')

theorem Runs.wp {P : Program} {o : Oper} {a : Act} {w : World} {post : Value → World → Prop} {Q : Exit → Act → World → Prop} {K : Act → World → Prop} (h : Runs P o a w post)
    (hk : ∀ x w', post x w' → K (a.put o.dst x) w') : o.wp P a w K Q := by
  cases h with
  | value h hp => unfold Oper.wp; rw [h]; exact hk _ _ hp
  | skip h hp => unfold Oper.wp; rw [h]; exact hk _ _ hp
  | enter h hp =>
    unfold Oper.wp; rw [h]
    refine hp.mono ?_
    rintro e w'' ⟨x, rfl, hx⟩
    exact hk _ _ hx

def OpSound (P : Program) (G : Nat → Option AV) (t : Tms) (e : Ents) (nb : Nat) (o : Oper) (v : AV) (d : Del) : Prop :=
  ∀ B ρ D t' e' a w, Le t t' → Le e e' → Good B G ρ D t' e' a w → (∀ n, nb ≤ n → n < nb + 16 → ¬ D n) → Runs P o a w (Post B ρ D e' w nb v d)

theorem Post.pure {B : Nat → Prop} {ρ : Nat → Nat} {D : Nat → Prop} {e : Ents} {w : World} {nb : Nat} {v : AV} {x : Value} (hm : Mem B ρ D e w) (h : RV ρ (Stab B ρ e w) w D v x) : Post B ρ D e w nb v [] x w :=
  ⟨ρ, D, fun _ h => .inl h, h, hm, Evol.refl w⟩

section
variable {P : Program} {G : Nat → Option AV} {t : Tms} {e : Ents} {nb : Nat} {dst : Option Tmp} {ty : TypeId} {pos : String} {after : Array Edge} {gd : Option (Nat × Bool)}

theorem sound_move {x : Operand} {v : AV} (h : ev G t x = some v) : OpSound P G t e nb ⟨dst, .move x, ty, pos, after, gd⟩ v [] :=
  fun _ _ _ _ _ _ _ ht _ hg _ => .value (by simp [execOp]) (Post.pure hg.mem (ev_sound hg ht h))
theorem sound_assign {x : Operand} {v : AV} (h : ev G t x = some v) : OpSound P G t e nb ⟨dst, .assign x, ty, pos, after, gd⟩ v [] :=
  fun _ _ _ _ _ _ _ ht _ hg _ => .value (by simp [execOp]) (Post.pure hg.mem (ev_sound hg ht h))

theorem RV.tup_inv {ρ : Nat → Nat} {S : Nat → Prop} {w : World} {N : Nat → Prop} {l : List AV} {v : Value} (h : RV ρ S w N (.tup l) v) : ∃ vs : List Value, v = .tuple vs.toArray ∧ vs.length = l.length ∧ ∀ (i : Nat) x, l[i]? = some x → ∃ cs, RC ρ S w N x cs ∧ vs[i]? = some (shape x cs) := by
  cases h with
  | one h => cases h
  | tup hl h => exact ⟨_, rfl, hl, h⟩
theorem RV.inv {ρ : Nat → Nat} {S : Nat → Prop} {w : World} {N : Nat → Prop} {a : AV} {v : Value} (h : RV ρ S w N a v) (ha : ∀ l, a ≠ .tup l) : ∃ cs, v = shape a cs ∧ RC ρ S w N a cs := by
  cases h with
  | one h => exact ⟨_, rfl, h⟩
  | tup => exact absurd rfl (ha _)

theorem sound_extract {x : Operand} {l : List AV} {i : Nat} {v : AV} (h : ev G t x = some (.tup l)) (hi : l[i]? = some v) : OpSound P G t e nb ⟨dst, .extract x i, ty, pos, after, gd⟩ v [] := by
  intro B ρ D t' e' a w ht _ hg _
  obtain ⟨vs, hv, hl, hr⟩ := (ev_sound hg ht h).tup_inv
  obtain ⟨cs, h1, h2⟩ := hr i v hi
  exact .value (x := shape v cs) (w' := w) (by simp [execOp, Instr.extract, hv, h2]) (Post.pure hg.mem (.one h1))

/-- The cells of a value are those that it was made of. -/
theorem RC.cells {ρ : Nat → Nat} {S : Nat → Prop} {w : World} {N : Nat → Prop} {a : AV} {cs : List Value} (h : RC ρ S w N a cs) : (shape a cs).cells = cs.toArray := by
  cases h <;> rfl
theorem RC.oneCell {ρ : Nat → Nat} {S : Nat → Prop} {w : World} {N : Nat → Prop} {a : AV} {cs : List Value} (h : RC ρ S w N a cs) : ∀ v ∈ cs, v.oneCell' = true := by
  induction h with
  | ints h => intro v hv; rw [List.mem_map] at hv; obtain ⟨x, _, rfl⟩ := hv; rfl
  | nil => intro v hv; cases hv
  | cons _ _ ih1 ih2 => intro v hv; rcases List.mem_append.1 hv with h | h <;> first | exact ih1 v h | exact ih2 v h
  | _ => intro v hv; rw [List.mem_singleton] at hv; subst hv; rfl

theorem Post.alloc {B : Nat → Prop} {ρ : Nat → Nat} {D : Nat → Prop} {e : Ents} {w : World} {v : AV} {cs : List Value} {T : TypeId} (hm : Mem B ρ D e w) (hD : ∀ n, nb ≤ n → n < nb + 16 → ¬ D n)
    (h : ∀ (ρ' : Nat → Nat) (S' : Nat → Prop) (D' : Nat → Prop) (w' : World), Evo (Stab B ρ e w) S' w w' → (∀ n, D n → D' n ∧ ρ' n = ρ n) → RC ρ' S' w' D' v cs) :
    Post B ρ D e w nb (.ptr nb 0 0 1) [(nb, some (.obj T v))] (.pointer (some ⟨w.heap.size, 0, none⟩)) (w.alloc (.cells cs.toArray T)) := by
  obtain ⟨ρ', h1, h2, h3⟩ := hm.alloc nb (hD nb (Nat.le_refl _) (by omega)) (.cells cs.toArray T) (.obj T v) (e' := ap [(nb, some (.obj T v))] e) (fun m => lk_up e nb (some (.obj T v)) m)
    (fun ρ' D' hag hevo => .obj (h ρ' _ D' _ hevo hag) (Cel.new w _ _))
  refine ⟨ρ', _, fun n hn => hn.imp id (fun q => by subst q; omega), ?_, h2, h3⟩
  have := RV.one (RC.ptr (ρ := ρ') (S := Stab B ρ' (ap [(nb, some (.obj T v))] e) (w.alloc (.cells cs.toArray T))) (w := w.alloc (.cells cs.toArray T)) (N := fun n => D n ∨ n = nb) (nm := nb) (o := 0) (i := 0) (sz := 1) (.inr rfl))
  rw [h1] at this
  exact this

theorem run_newVar_eq (w : World) (T : TypeId) (v : Value) : (newVar T v).run P w = .ok ⟨w.heap.size, 0, none⟩ (w.alloc (.cells v.cells T)) := by
  rfl

theorem sound_alloc {T : Nat} {ti : TI} (hT : TyOK P T ti) : OpSound P G t e nb ⟨dst, .alloc T, ty, pos, after, gd⟩ (.ptr nb 0 0 1) [(nb, some (.obj T ti.z))] := by
  intro B ρ D t' e' a w _ _ hg hD
  have hc := (RC.conc ρ (Stab B ρ e' w) w D ti.z hT.pl).cells
  refine .value (x := .pointer (some ⟨w.heap.size, 0, none⟩)) (w' := w.alloc (.cells (conc ti.z).toArray T)) ?_ (Post.alloc hg.mem hD (fun ρ' S' D' w' _ _ => RC.conc _ _ _ _ _ hT.pl))
  simp only [execOp, Instr.alloc, Sem.run_bind, hT.run_zero, Result.andThen_ok, run_newVar_eq, Sem.run_pure, hc]

theorem sound_box {T : Nat} {x : Operand} {v : AV} (h : ev G t x = some v) (hv : ∀ l, v ≠ .tup l) : OpSound P G t e nb ⟨dst, .box T x, ty, pos, after, gd⟩ (.ptr nb 0 0 1) [(nb, some (.obj T v))] := by
  intro B ρ D t' e' a w ht _ hg hD
  obtain ⟨cs, hx, hr⟩ := (ev_sound hg ht h).inv hv
  refine .value (x := .pointer (some ⟨w.heap.size, 0, none⟩)) (w' := w.alloc (.cells cs.toArray T)) ?_ (Post.alloc hg.mem hD (fun ρ' S' D' w' he hag => hr.mono he D' hag))
  simp only [execOp, Instr.box, Sem.run_bind, Result.andThen_ok, run_newVar_eq, Sem.run_pure, hx, hr.cells]

/-! ### Loads -/

/-- What stands at a pointer, read at a type. -/
def ldC (ti : TI) (cs : List AV) (o i : Nat) : Q AV :=
  if ti.kd.agg = true then req (i = 0) (opt (dropC cs o) fun ds => opt (takeC ds ti.size) fun es => ret (.agg es)) else ldS cs o i
def ldE (ti : TI) (o i sz : Nat) : Ent → Q AV
  | .obj _ v => req (sz = 1) (ldC ti (comps v) o i)
  | .vec _ (.ints k xs) => if ti.kd.agg = true then req (sz = 1 ∧ o = 0 ∧ i + ti.size ≤ xs.length) (ret (.agg [.ints k ti.size ((xs.drop i).take ti.size)]))
    else req (sz = 1 ∧ o = 0 ∧ ti.kd.agg = false ∧ i < xs.length) (ret (.int k (xs.getD i 0)))
  | .vec _ (.strs ss) => req (sz = 1 ∧ o = 0 ∧ ti.kd.agg = false ∧ i < ss.length) (ret (.str (ss.getD i .empty)))
  | .vec _ (.avs s l) => req (sz = s ∧ i < l.length) (ldC ti (comps (l.getD i default)) o 0)
def ldP (e : Ents) (ti : TI) (p : AV) : Q AV :=
  match p with
  | .ptr nm o i sz => opt (lk e nm) (ldE ti o i sz)
  | .pel v => ldC ti (comps v) 0 0
  | _ => none

theorem run_loadVar_cells {T : Nat} {ti : TI} (hT : TyOK P T ti) (w : World) (b o : Nat) (cs : List Value) (hs : cs.length = ti.size) (hag : ti.kd.agg = true) (hc : ∀ j u, cs[j]? = some u → w.cell? ⟨b, o + j, none⟩ = some u) :
    (loadVar T ⟨b, o, none⟩).run P w = .ok (.agg cs.toArray) w := by
  have hl := run_loadCells_list (P := P) w ⟨b, o, none⟩ cs (fun j v hv => by
    have : (⟨b, o, none⟩ : Addr).add j = ⟨b, o + j, none⟩ := by unfold Addr.add; split <;> simp_all
    rw [this]; exact hc j v hv)
  simp only [loadVar, Sem.run_bind, hT.run_agg, Result.andThen_ok, hag, if_true, hT.run_size, ← hs, hl, Sem.run_pure]
theorem run_loadVar_cell {T : Nat} {ti : TI} (hT : TyOK P T ti) (w : World) (b o : Nat) (u : Value) (hag : ti.kd.agg = false) (hc : w.cell? ⟨b, o, none⟩ = some u) :
    (loadVar T ⟨b, o, none⟩).run P w = .ok u w := by
  simp [loadVar, hT.run_agg, hag, hc]

/-- Cells at a place, read at a type. -/
theorem ldC_run {T : Nat} {ti : TI} (hT : TyOK P T ti) {ρ : Nat → Nat} {S : Nat → Prop} {w : World} {N : Nat → Prop} {cs : List AV} {vals : List Value} {b base o i : Nat} {v : AV}
    (h : RC ρ S w N (.agg cs) vals) (hc : ∀ j u, vals[j]? = some u → w.cell? ⟨b, base + j, none⟩ = some u) (hl : Ok (ldC ti cs o i) v) :
    ∃ x, RV ρ S w N v x ∧ (loadVar T ⟨b, base + (o + i), none⟩).run P w = .ok x w := by
  unfold ldC at hl
  split at hl
  · next hag =>
    obtain ⟨h0, hl1⟩ := hl.req
    subst h0
    obtain ⟨ds, hd, hl2⟩ := hl1.opt
    obtain ⟨es, he, hk⟩ := hl2.opt
    have := hk.ret; subst this
    obtain ⟨h1, hle⟩ := h.drop hd
    obtain ⟨h2, hle2⟩ := h1.take he
    refine ⟨_, .one h2, ?_⟩
    have := run_loadVar_cells hT w b (base + o) ((vals.drop o).take ti.size) (by rw [List.length_take]; omega) hag (fun j u hj => by
      rw [List.getElem?_take] at hj
      split at hj
      · rw [List.getElem?_drop] at hj
        have := hc (o + j) u hj
        rwa [← Nat.add_assoc] at this
      · cases hj)
    simpa [shape, AV.isAgg] using this
  · next hag =>
    obtain ⟨u, hv, hg, hr⟩ := h.ldS hl
    refine ⟨u, ?_, ?_⟩
    · have := RV.one hr
      rwa [shape_one hv] at this
    · exact run_loadVar_cell hT w b _ u (by simpa using hag) (hc _ _ hg)

theorem cell_obj {w : World} {b : Nat} {cs : List Value} {T : TypeId} (hb : Cel w b cs.toArray T) (j : Nat) (u : Value) (h : cs[j]? = some u) : w.cell? ⟨b, 0 + j, none⟩ = some u := by
  rw [Nat.zero_add, hb.cell]; simpa using h
theorem cell_vec {w : World} {b : Nat} {c : Array Value} {cs : List Value} {T : TypeId} (hb : Cel w b c T) (hc : c.toList.take cs.length = cs) (j : Nat) (u : Value) (h : cs[j]? = some u) : w.cell? ⟨b, j, none⟩ = some u := by
  rw [hb.cell]
  have h2 : (c.toList.take cs.length)[j]? = some u := by rw [hc]; exact h
  rw [List.getElem?_take] at h2
  split at h2
  · simpa using h2
  · cases h2

theorem RowC.avs_get {ρ : Nat → Nat} {S : Nat → Prop} {w : World} {N : Nat → Prop} {sz : Nat} {l : List AV} : ∀ {cs : List Value}, RowC ρ S w N (.avs sz l) cs → ∀ i (x : AV), l[i]? = some x →
    ∃ a, RC ρ S w N x a ∧ a.length = sz ∧ ∀ j u, a[j]? = some u → cs[i * sz + j]? = some u := by
  induction l with
  | nil => intro cs _ i x hx; simp at hx
  | cons y l ih =>
    intro cs h i x hx
    cases h with
    | cons h1 hz h2 =>
      rename_i a0 b0
      cases i with
      | zero =>
        simp at hx; subst hx
        refine ⟨_, h1, hz, fun j u hj => ?_⟩
        rw [List.getElem?_append_left (by have := (List.getElem?_eq_some_iff.1 hj).1; omega)]
        simpa using hj
      | succ i =>
        obtain ⟨a, ha, hl, hc⟩ := ih h2 i x (by simpa using hx)
        refine ⟨a, ha, hl, fun j u hj => ?_⟩
        rw [List.getElem?_append_right (by rw [hz, Nat.add_mul]; omega)]
        have : (i + 1) * sz + j - a0.length = i * sz + j := by rw [hz, Nat.add_mul]; omega
        rw [this]
        exact hc j u hj

theorem ldP_run {B : Nat → Prop} {G : Nat → Option AV} {ρ : Nat → Nat} {D : Nat → Prop} {t' : Tms} {e e' : Ents} {a : Act} {w : World} (hg : Good B G ρ D t' e' a w) (hle : Le e e') {T : Nat} {ti : TI} {p v : AV} {pv : Value} (hT : TyOK P T ti)
    (hx : RV ρ (Stab B ρ e' w) w D p pv) (hl : Ok (ldP e ti p) v) : ∃ b o y, pv = .pointer (some ⟨b, o, none⟩) ∧ RV ρ (Stab B ρ e' w) w D v y ∧ (loadVar T ⟨b, o, none⟩).run P w = .ok y w := by
  have fin : ∀ (b o : Nat) (y : Value), pv = .pointer (some ⟨b, o, none⟩) → RV ρ (Stab B ρ e' w) w D v y → (loadVar T ⟨b, o, none⟩).run P w = .ok y w →
      ∃ b o y, pv = .pointer (some ⟨b, o, none⟩) ∧ RV ρ (Stab B ρ e' w) w D v y ∧ (loadVar T ⟨b, o, none⟩).run P w = .ok y w := fun b o y h1 h2 h3 => ⟨b, o, y, h1, h2, h3⟩
  cases p <;> simp only [ldP] at hl <;> first | exact hl.none.elim | skip
  · rename_i nm o i sz
    obtain ⟨y, hy, hl1⟩ := hl.opt
    clear hl
    obtain ⟨cs, hv, hr⟩ := hx.inv (by simp)
    cases hr with
    | ptr _ =>
      have hy' := (hg.mem.en nm y (hle _ _ hy)).2
      clear hy
      cases hy' with
      | obj hr hb =>
        obtain ⟨h1, hl2⟩ := hl1.req
        subst h1
        obtain ⟨u, h2, h3⟩ := ldC_run hT hr.comps (cell_obj hb) hl2
        refine fin _ _ u hv h2 ?_
        simpa using h3
      | vec hr hb hc =>
        cases hr with
        | ints =>
          rename_i kk xs
          simp only [ldE] at hl1
          by_cases hagg : ti.kd.agg = true
          · rw [if_pos hagg] at hl1
            obtain ⟨⟨h1, h2, hle⟩, h3⟩ := hl1.req
            have h3 := h3.ret
            subst h1 h2 h3
            have hlen : ((xs.drop i).take ti.size).length = ti.size := by simp; omega
            refine fin _ _ (.agg ((((xs.drop i).take ti.size).map (Value.int kk)) ++ []).toArray) hv (.one (cs := (((xs.drop i).take ti.size).map (Value.int kk)) ++ []) (.cons (.ints hlen) .nil)) ?_
            refine run_loadVar_cells hT w _ _ _ (by simp [hlen]; omega) hagg (fun j u hj => ?_)
            rw [Nat.add_assoc]
            refine cell_vec hb hc _ _ ?_ |> fun h => by simpa using h
            simp only [List.append_nil, List.getElem?_map] at hj ⊢
            rw [List.getElem?_take] at hj
            split at hj
            · rw [List.getElem?_drop] at hj; simpa using hj
            · cases hj
          rw [if_neg hagg] at hl1
          obtain ⟨⟨h1, h2, hag, hlt⟩, h3⟩ := hl1.req
          have h3 := h3.ret
          subst h1 h2 h3
          refine fin _ _ (.int _ _) hv (.one (cs := [_]) .int) (run_loadVar_cell hT w _ _ _ hag (cell_vec hb hc _ _ ?_))
          simp [List.getElem?_eq_getElem hlt]
        | strs =>
          simp only [ldE] at hl1
          obtain ⟨⟨h1, h2, hag, hlt⟩, h3⟩ := hl1.req
          have h3 := h3.ret
          subst h1 h2 h3
          refine fin _ _ (.string _) hv (.one (cs := [_]) .str) (run_loadVar_cell hT w _ _ _ hag (cell_vec hb hc _ _ ?_))
          simp [List.getElem?_eq_getElem hlt]
        | nil => exact absurd hl1.req.1.2 (by simp)
        | cons h1 hz h2 =>
          rename_i s y l a0 b0
          obtain ⟨⟨h0, hlt⟩, hl2⟩ := hl1.req
          subst h0
          obtain ⟨a', ha, hal, hac⟩ := (RowC.cons h1 hz h2).avs_get i ((y :: l).getD i default) (by simp [List.getElem?_eq_getElem hlt])
          obtain ⟨u, h2, h3⟩ := ldC_run hT ha.comps (base := i * sz) (fun j u hj => cell_vec hb hc _ _ (hac j u hj)) hl2
          refine fin _ _ u hv h2 ?_
          simpa [Nat.add_comm] using h3
  · rename_i v0
    obtain ⟨cs, hv, hr⟩ := hx.inv (by simp)
    cases hr with
    | pel hr hs hc =>
      rename_i b o vals
      obtain ⟨u, h2, h3⟩ := ldC_run hT (hr.comps.mono (Evo.refl w) D (fun _ h => h.elim)) hc hl
      exact fin _ _ u hv h2 (by simpa using h3)

theorem sound_load {T : Nat} {ti : TI} {x : Operand} {p v : AV} (hT : TyOK P T ti) (h : ev G t x = some p) (hl : Ok (ldP e ti p) v) :
    OpSound P G t e nb ⟨dst, .load T x, ty, pos, after, gd⟩ v [] := by
  intro B ρ D t' e' a w ht hle hg _
  obtain ⟨b, o, y, h1, h2, h3⟩ := ldP_run (P := P) hg hle hT (ev_sound hg ht h) hl
  refine .value (x := y) (w' := w) ?_ (Post.pure hg.mem h2)
  simp only [execOp, h1, Instr.loadAt, Instr.sureAddr, Sem.run_bind, Sem.run_pure, Result.andThen_ok, h3]

/-! ### Stores -/

def AV.isTup : AV → Bool
  | .tup _ => true
  | _ => false
def stC (ti : TI) (cs : List AV) (o i : Nat) (v : AV) : Q (List AV) :=
  if ti.kd.agg = true then req (i = 0 ∧ v.isAgg = true ∧ szL (comps v) = some ti.size) (opt (takeC cs o) fun ds => opt (dropC cs (o + ti.size)) fun es => ret (ds ++ (comps v ++ es)))
  else req (ti.size = 1 ∧ v.isAgg = false ∧ v.isTup = false) (stS cs o i v)
def stE (ti : TI) (o i sz : Nat) (v : AV) : Ent → Q Ent
  | .obj T old => req (sz = 1) (bnd (stC ti (comps old) o i v) fun cs => ret (.obj T (.agg cs)))
  | .vec T (.ints k xs) => match v with | .int k' x => req (sz = 1 ∧ o = 0 ∧ ti.size = 1 ∧ i < xs.length ∧ k' = k) (ret (.vec T (.ints k (xs.set i x)))) | _ => none
  | .vec T (.strs ss) => match v with | .str x => req (sz = 1 ∧ o = 0 ∧ ti.size = 1 ∧ i < ss.length) (ret (.vec T (.strs (ss.set i x)))) | _ => none
  | .vec _ (.avs _ _) => none
def stP (e : Ents) (ti : TI) (p v : AV) : Q Del :=
  match p with
  | .ptr nm o i sz => opt (lk e nm) fun x => bnd (stE ti o i sz v x) fun y => ret [(nm, some y)]
  | _ => none

theorem RV.unit {ρ : Nat → Nat} {S : Nat → Prop} {w : World} {N : Nat → Prop} : RV ρ S w N (.tup []) undef := .tup (vs := []) rfl (fun i x h => by simp at h)

theorem setCells_row (g : Nat) (t : TypeId) (fr : Nat × Nat) : ∀ (vs : List Value) (o : Nat) (cur : Array Value) (w : World), w.heap[g]? = some (.cells cur t fr) → o + vs.length ≤ cur.size →
    w.setCells g o vs = w.setRow g (cur.toList.take o ++ vs ++ cur.toList.drop (o + vs.length)).toArray
  | [], o, cur, w, hg, _ => by
    simp only [World.setCells, List.append_nil, List.length_nil, Nat.add_zero, List.take_append_drop, Array.toArray_toList]
    exact (setRow_self w g cur t fr hg).symm
  | v :: r, o, cur, w, hg, hl => by
    have hl' : o + (r.length + 1) ≤ cur.size := by simpa using hl
    rw [World.setCells, setCell_eq_setRow w g o cur t fr v hg, setCells_row g t fr r (o + 1) (cur.setIfInBounds o v) _ (setRow_heap w g cur _ t fr hg) (by simp; omega), setRow_setRow]
    congr 2
    have := list_seg_step cur.toList o v r (by simpa using hl')
    rw [Array.toList_setIfInBounds, this, List.length_cons]
theorem Cel.setRow {w : World} {b : Nat} {c c' : Array Value} {T : TypeId} (h : Cel w b c T) (hs : c'.size = c.size) : Cel (w.setRow b c') b c' T := by
  obtain ⟨fr, h, hfr⟩ := h
  exact ⟨fr, setRow_heap w b c c' T fr h, by rw [hs]; exact hfr⟩
theorem Rw.setRow {w : World} {b n : Nat} {c c' : Array Value} {T : TypeId} (hn : Rw w b n) (hs : c'.size = c.size) (h : Cel w b c T) : Rw (w.setRow b c') b n := by
  have h1 := (h.setRow hs).rw
  obtain ⟨fr, h, _⟩ := h
  obtain ⟨c0, T0, fr0, h0, e0⟩ := hn
  rw [h] at h0; cases h0
  rw [← e0, ← hs]; exact h1
theorem Cel.storeCells {w : World} {b o : Nat} {c : Array Value} {T : TypeId} {vs : List Value} (h : Cel w b c T) (hl : o + vs.length ≤ c.size) : w.setCells b o vs = w.setRow b (c.toList.take o ++ vs ++ c.toList.drop (o + vs.length)).toArray := by
  obtain ⟨fr, h, _⟩ := h
  exact setCells_row b T fr vs o c w h hl
theorem Cel.store {P : Program} {w : World} {b o : Nat} {c : Array Value} {T : TypeId} {vs : List Value} (h : Cel w b c T) (hl : o + vs.length ≤ c.size) (h1 : ∀ v ∈ vs, v.oneCell' = true) :
    (Go.storeCells ⟨b, o, none⟩ vs 0).run P w = .ok () (w.setRow b (c.toList.take o ++ vs ++ c.toList.drop (o + vs.length)).toArray) := by
  have := run_storeCells_cells (P := P) b o vs 0 w (fun j hj => by rw [h.cell]; simp; omega) (fun j hj => h.frozen (by omega)) h1
  rw [this, Nat.add_zero, h.storeCells hl]

/-- A block of an entry that is written. -/
theorem Post.write {B : Nat → Prop} {ρ : Nat → Nat} {D : Nat → Prop} {e : Ents} {w : World} (hm : Mem B ρ D e w) {nm : Nat} {x x' : Ent} (hx : lk e nm = some x) {c c' : Array Value} {T : TypeId}
    (hb : Cel w (ρ nm) c T) (hs : c'.size = c.size)
    (hr : ∀ (S' : Nat → Prop) (w' : World), Evo (Stab B ρ e w) S' w w' → Cel w' (ρ nm) c' T → EntR ρ S' w' D (ρ nm) x') :
    Post B ρ D e w nb (.tup []) [(nm, some x')] undef (w.setRow (ρ nm) c') := by
  have hb' := hb.setRow hs
  obtain ⟨h1, h2⟩ := hm.write (e' := ap [(nm, some x')] e) (w' := w.setRow (ρ nm) c') hx (fun n => lk_up e nm (some x') n) (fun b hq => setRow_other w _ _ _ hq) (size_setRow w _ _) rfl rfl rfl
    (fun n hn => hn.setRow hs hb) (fun he => hr _ _ he hb')
  exact ⟨ρ, D, fun _ h => .inl h, .unit, h1, h2⟩

theorem take_splice (l cs : List Value) (q : Nat) (u : Value) (hc : l.take cs.length = cs) (hq : q < cs.length) : (l.take q ++ [u] ++ l.drop (q + 1)).take cs.length = cs.set q u := by
  have hl : q < l.length := by
    have := congrArg List.length hc; rw [List.length_take] at this; omega
  have : l.take q ++ [u] ++ l.drop (q + 1) = l.set q u := by rw [List.set_eq_take_append_cons_drop, if_pos hl]; simp
  rw [this, List.take_set, hc]

theorem sound_store {T : Nat} {ti : TI} {x y : Operand} {p v : AV} {d : Del} (hT : TyOK P T ti) (h : ev G t x = some p) (hy : ev G t y = some v) (hl : Ok (stP e ti p v) d) :
    OpSound P G t e nb ⟨dst, .store T x y, ty, pos, after, gd⟩ (.tup []) d := by
  intro B ρ D t' e' a w ht hle hg _
  have hx := ev_sound hg ht h
  have hv := ev_sound hg ht hy
  cases p <;> simp only [stP] at hl <;> first | exact hl.none.elim | skip
  rename_i nm o i sz
  obtain ⟨z, hz, hl1⟩ := hl.opt
  clear hl
  obtain ⟨z', hl2, hl3⟩ := hl1.bnd
  have := hl3.ret; subst this
  clear hl1 hl3
  obtain ⟨cs, hp, hr⟩ := hx.inv (by simp)
  cases hr with
  | ptr _ =>
    have hz0 := hle _ _ hz
    have hz' := (hg.mem.en nm z hz0).2
    clear hz
    -- the store itself
    have fin : ∀ (q : Nat) (vs : List Value) (c : Array Value) (T' : TypeId) (u : Value), a.eval x = .pointer (some ⟨ρ nm, q, none⟩) → a.eval y = u → u.cells = vs.toArray → vs.length = ti.size → (∀ v ∈ vs, v.oneCell' = true) →
        Cel w (ρ nm) c T' → q + vs.length ≤ c.size →
        (∀ (S' : Nat → Prop) (w' : World), Evo (Stab B ρ e' w) S' w w' → Cel w' (ρ nm) (c.toList.take q ++ vs ++ c.toList.drop (q + vs.length)).toArray T' → EntR ρ S' w' D (ρ nm) z') →
        Runs P ⟨dst, .store T x y, ty, pos, after, gd⟩ a w (Post B ρ D e' w nb (.tup []) [(nm, some z')]) := by
      intro q vs c T' u h1 h2 h3 h4 h5 h6 h7 h8
      refine .skip (w' := w.setRow (ρ nm) (c.toList.take q ++ vs ++ c.toList.drop (q + vs.length)).toArray) ?_ (Post.write hg.mem hz0 h6 (by simp; omega) h8)
      have hst := h6.store (P := P) h7 h5
      have hsz : u.cells.size = ti.size := by rw [h3]; simpa using h4
      have htl : u.cells.toList = vs := by rw [h3]
      simp only [execOp, h1, h2, Instr.storeAt, Instr.sureAddr, Sem.run_bind, Sem.run_pure, Result.andThen_ok, storeVar, hT.run_size, hsz, ne_eq, not_true_eq_false, if_false, htl, hst]
    -- what is stored
    have hvc : ∃ vs, v.isAgg = v.isAgg ∧ (∀ l, v ≠ .tup l) → a.eval y = shape v vs ∧ RC ρ (Stab B ρ e' w) w D v vs := by
      by_cases hq : ∃ l, v = .tup l
      · obtain ⟨l, rfl⟩ := hq; exact ⟨[], fun hh => absurd rfl (hh.2 l)⟩
      · obtain ⟨vs, h1, h2⟩ := hv.inv (fun l hl => hq ⟨l, hl⟩); exact ⟨vs, fun _ => ⟨h1, h2⟩⟩
    obtain ⟨vs, hvs⟩ := hvc
    cases hz' with
    | obj hr hb =>
      rename_i T' old vals
      obtain ⟨h1, hl3⟩ := hl2.req
      subst h1
      obtain ⟨cs', hst, hl4⟩ := hl3.bnd
      have := hl4.ret; subst this
      unfold stC at hst
      split at hst
      · next hag =>
        obtain ⟨⟨h0, hva, hsz⟩, hl5⟩ := hst.req
        subst h0
        obtain ⟨ds, hd, hl6⟩ := hl5.opt
        obtain ⟨es, he, hl7⟩ := hl6.opt
        have := hl7.ret; subst this
        obtain ⟨hy1, hy2⟩ := hvs ⟨rfl, fun l hl => by subst hl; simp [AV.isAgg] at hva⟩
        have hlen := hy2.comps.szL hsz
        obtain ⟨h3, h4⟩ := hr.comps.take hd
        obtain ⟨h5, h6⟩ := hr.comps.drop he
        refine fin o vs vals.toArray T' (shape v vs) (by simpa [shape, AV.isAgg] using hp) hy1 hy2.cells hlen hy2.oneCell hb (by simp; omega) (fun S' w' hevo hb' => ?_)
        have hall : RC ρ (Stab B ρ e' w) w D (.agg (ds ++ (comps v ++ es))) (vals.take o ++ (vs ++ vals.drop (o + ti.size))) := h3.append (hy2.comps.append h5)
        refine .obj (hall.mono hevo D (fun n hn => ⟨hn, rfl⟩)) ?_
        rw [hlen] at hb'
        simpa using hb'
      · next hag =>
        obtain ⟨⟨h1s, hva, hvt⟩, hl5⟩ := hst.req
        obtain ⟨hy1, hy2⟩ := hvs ⟨rfl, fun l hl => by subst hl; cases hvt⟩
        obtain ⟨u, rfl⟩ : ∃ u, vs = [u] := by
          cases hy2 <;> first | exact ⟨_, rfl⟩ | (simp [AV.isAgg] at hva)
        obtain ⟨hlt, hr2⟩ := RC.stS hy2 hr.comps hl5
        refine fin (o + i) [u] vals.toArray T' (shape v [u]) (by simpa [shape, AV.isAgg] using hp) hy1 hy2.cells (by simp [h1s]) hy2.oneCell hb (by simp; omega) (fun S' w' hevo hb' => ?_)
        refine .obj (hr2.mono hevo D (fun n hn => ⟨hn, rfl⟩)) ?_
        rw [List.set_eq_take_append_cons_drop, if_pos hlt]
        simpa using hb'
    | vec hr hb hc =>
      rename_i T' r cs0 c
      have seg : ∀ (q : Nat) (u : Value), q < cs0.length → (c.toList.take q ++ [u] ++ c.toList.drop (q + [u].length)).toArray.toList.take (cs0.set q u).length = cs0.set q u :=
        fun q u hq => by simpa using take_splice c.toList cs0 q u hc hq
      have hle : cs0.length ≤ c.size := by
        have := congrArg List.length hc; rw [List.length_take] at this; simp at this; omega
      cases hr with
      | ints =>
        rename_i k xs
        simp only [stE] at hl2
        split at hl2
        · next k' x =>
          obtain ⟨⟨h1, h2, h3, hlt, h4⟩, h5⟩ := hl2.req
          have h5 := h5.ret
          subst h1 h2 h4 h5
          obtain ⟨hy1, hy2⟩ := hvs ⟨rfl, fun l hl => by cases hl⟩
          cases hy2
          refine fin i [_] c T' (.int k' x) (by simpa [shape, AV.isAgg] using hp) hy1 rfl (by simp [h3]) (by simp [Value.oneCell']) hb (by simp at hle ⊢; omega) (fun S' w' hevo hb' => ?_)
          refine .vec (cs := (xs.set i x).map (Value.int k')) .ints hb' ?_
          rw [List.map_set]
          exact seg i _ (by simpa using hlt)
        · exact hl2.none.elim
      | strs =>
        rename_i ss
        simp only [stE] at hl2
        split at hl2
        · next x =>
          obtain ⟨⟨h1, h2, h3, hlt⟩, h5⟩ := hl2.req
          have h5 := h5.ret
          subst h1 h2 h5
          obtain ⟨hy1, hy2⟩ := hvs ⟨rfl, fun l hl => by cases hl⟩
          cases hy2
          refine fin i [_] c T' (.string x) (by simpa [shape, AV.isAgg] using hp) hy1 rfl (by simp [h3]) (by simp [Value.oneCell']) hb (by simp at hle ⊢; omega) (fun S' w' hevo hb' => ?_)
          refine .vec (cs := (ss.set i x).map Value.string) .strs hb' ?_
          rw [List.map_set]
          exact seg i _ (by simpa using hlt)
        · exact hl2.none.elim
      | nil => simp only [stE] at hl2; exact hl2.none.elim
      | cons => simp only [stE] at hl2; exact hl2.none.elim

end

end Sx
