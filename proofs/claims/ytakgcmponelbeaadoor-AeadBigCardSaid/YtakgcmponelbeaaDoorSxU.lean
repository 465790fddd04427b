/- make, slice literals, the built-ins together. -/
import Derived.Test.YtakgcmponelbeaaDoorSxT
set_option linter.unusedVariables false
set_option linter.unusedSimpArgs false
namespace Sx
open Go

theorem made_flat (z : Array Value) (n sz : Nat) (hz : z.size = sz) : madeCells z (n * sz) = (List.replicate n z.toList).flatten.toArray := by
  apply Array.ext'
  simp only [madeCells, Array.toList_map, Array.toList_range]
  induction n with
  | zero => simp
  | succ n ih =>
    rw [Nat.add_mul, Nat.one_mul, List.range_add, List.map_append, ih, List.replicate_succ', List.flatten_append, List.flatten_singleton]
    congr 1
    apply List.ext_getElem (by simp [hz])
    intro j h1 h2
    have hj : j < sz := by simpa using h1
    simp only [List.getElem_map, List.getElem_range]
    have : (n * sz + j) % z.size = j := by rw [hz, Nat.mul_comm, Nat.mul_add_mod, Nat.mod_eq_of_lt hj]
    rw [this, getElem!_pos z j (by omega)]
    simp

/-- So many zero values, one behind the other. -/
def zeroCs (te : TI) (n : Nat) : List AV :=
  match te.z with
  | .int k m => [.ints k n (List.replicate n m)]
  | z => (List.replicate n (comps z)).flatten
theorem RC.flat {ρ : Nat → Nat} {S : Nat → Prop} {w : World} {N : Nat → Prop} {cs : List AV} {vals : List Value} (h : RC ρ S w N (.agg cs) vals) : ∀ n, RC ρ S w N (.agg (List.replicate n cs).flatten) (List.replicate n vals).flatten
  | 0 => .nil
  | n + 1 => by
    rw [List.replicate_succ, List.replicate_succ, List.flatten_cons, List.flatten_cons]
    exact h.append (RC.flat h n)
theorem zeroCs_RC {P : Program} {T : Nat} {te : TI} (hT : TyOK P T te) (ρ : Nat → Nat) (S : Nat → Prop) (w : World) (N : Nat → Prop) (n : Nat) : RC ρ S w N (.agg (zeroCs te n)) (List.replicate n (conc te.z)).flatten := by
  have h := (RC.conc ρ S w N te.z hT.pl).comps
  unfold zeroCs
  split
  · next k m hz =>
    rw [hz]
    have : (List.replicate n (conc (.int k m))).flatten = (List.replicate n m).map (Value.int k) ++ [] := by
      simp [conc]
    rw [this]
    exact .cons (.ints (by simp)) .nil
  · exact h.flat n

def strsOf : List AV → Option (List ByteArray)
  | [] => some []
  | .str s :: l => (strsOf l).map (s :: ·)
  | _ :: _ => none
theorem strsOf_spec {ρ : Nat → Nat} {S : Nat → Prop} {w : World} {N : Nat → Prop} : ∀ {l : List AV} {xs : List ByteArray} {cs : List Value}, strsOf l = some xs → RC ρ S w N (.agg l) cs → cs = xs.map Value.string
  | [], _, _, h, hr => by cases h; cases hr; rfl
  | c :: l, xs, _, h, .cons h1 h2 => by
    cases c <;> simp only [strsOf] at h <;> first | (cases h; done) | skip
    simp only [Option.map_eq_some_iff] at h
    obtain ⟨ys, h3, rfl⟩ := h
    cases h1
    rw [strsOf_spec h3 h2]; simp
def chunks (sz : Nat) : Nat → List AV → Option (List AV)
  | 0, [] => some []
  | 0, _ :: _ => none
  | n + 1, cs => (takeC cs sz).bind fun ds => (dropC cs sz).bind fun es => (chunks sz n es).map (.agg ds :: ·)
theorem chunks_spec {ρ : Nat → Nat} {S : Nat → Prop} {w : World} {N : Nat → Prop} {sz : Nat} : ∀ {n : Nat} {cs l : List AV} {vals : List Value}, chunks sz n cs = some l → RC ρ S w N (.agg cs) vals → RowC ρ S w N (.avs sz l) vals
  | 0, [], _, _, h, hr => by cases h; cases hr; exact .nil
  | 0, _ :: _, _, _, h, _ => by cases h
  | n + 1, cs, l, vals, h, hr => by
    simp only [chunks, Option.bind_eq_some_iff, Option.map_eq_some_iff] at h
    obtain ⟨ds, h1, es, h2, l', h3, rfl⟩ := h
    obtain ⟨k1, k2⟩ := hr.take h1
    obtain ⟨k3, k4⟩ := hr.drop h2
    rw [← List.take_append_drop sz vals]
    exact .cons k1 (by simp; omega) (chunks_spec h3 k3)
def ones : List AV → Bool
  | [] => true
  | c :: l => csize c == some 1 && ones l
theorem ones_spec {ρ : Nat → Nat} {S : Nat → Prop} {w : World} {N : Nat → Prop} : ∀ {cs : List AV} {vals : List Value}, ones cs = true → RC ρ S w N (.agg cs) vals → RowC ρ S w N (.avs 1 cs) vals
  | [], _, _, hr => by cases hr; exact .nil
  | c :: l, _, h, .cons h1 h2 => by
    simp only [ones, Bool.and_eq_true, beq_iff_eq] at h
    exact .cons h1 (RC.size h1 h.1) (ones_spec h.2 h2)
/-- Cells, as a row. -/
def cellsRow (te : TI) (n : Nat) (cs : List AV) : Option Row :=
  match te.kd with
  | .int k => (intsOf k cs).map (.ints k)
  | .str => (strsOf cs).map .strs
  | kd => bif kd.agg then (chunks te.size n cs).map (.avs te.size) else bif ones cs then some (.avs 1 cs) else none
theorem cellsRow_spec {ρ : Nat → Nat} {S : Nat → Prop} {w : World} {N : Nat → Prop} {te : TI} {n : Nat} {cs : List AV} {r : Row} {vals : List Value} (h : cellsRow te n cs = some r) (hr : RC ρ S w N (.agg cs) vals) : RowC ρ S w N r vals := by
  unfold cellsRow at h
  split at h
  · simp only [Option.map_eq_some_iff] at h
    obtain ⟨xs, h1, rfl⟩ := h
    rw [intsOf_spec h1 hr]; exact .ints
  · simp only [Option.map_eq_some_iff] at h
    obtain ⟨xs, h1, rfl⟩ := h
    rw [strsOf_spec h1 hr]; exact .strs
  · cases hk : Kd.agg te.kd <;> simp only [hk, cond_true, cond_false] at h
    · cases ho : ones cs <;> simp only [ho, cond_true, cond_false] at h
      · cases h
      · cases h; exact ones_spec ho hr
    · simp only [Option.map_eq_some_iff] at h
      obtain ⟨xs, h1, rfl⟩ := h
      exact chunks_spec h1 hr

section
variable {P : Program} {tt : Nat → Option TI} {G : Nat → Option AV} {t : Tms} {e : Ents} {nb : Nat} {dst : Option Tmp} {ty : TypeId} {pos : String} {after : Array Edge} {gd : Option (Nat × Bool)}

/-- A new row of one's own. -/
theorem Post.row {B : Nat → Prop} {ρ : Nat → Nat} {D : Nat → Prop} {e : Ents} {w : World} {r : Row} {cs : List Value} {c : Array Value} {T : TypeId} {len cap : Nat} (hm : Mem B ρ D e w) (hD : ∀ n, nb ≤ n → n < nb + 16 → ¬ D n)
    (hr : RowC ρ (Stab B ρ e w) w D r cs) (hc : c.toList.take cs.length = cs) (hlen : len ≤ cap) (hcap : cap ≤ maxLen) (hs : c.size = cap * r.sz) :
    Post B ρ D e w nb (.sl nb r.sz 0 len) [(nb, some (.vec T r))] (.slice (some ⟨w.heap.size, 0, none⟩) len cap) (w.alloc (.cells c T)) := by
  obtain ⟨ρ', h1, h2, h3⟩ := hm.alloc nb (hD nb (Nat.le_refl _) (by omega)) (.cells c T) (.vec T r) (e' := ap [(nb, some (.vec T r))] e) (fun m => lk_up e nb (some (.vec T r)) m)
    (fun ρ' D' hag hevo => .vec (hr.mono hevo hag) (Cel.new w _ _) hc)
  refine ⟨ρ', _, fun n hn => hn.imp id (fun q => by subst q; omega), ?_, h2, h3⟩
  rw [← h1]
  exact .one (cs := [_]) (.sl (.inr rfl) (.inl (by simp)) hlen hcap (by rw [h1]; exact (Cel.new w _ _).rw) (by rw [hs, Nat.zero_add]))

def mkQ (tt : Nat → Option TI) (nb : Nat) (ti : TI) (x y : AV) : Q (AV × Del) :=
  match ti.kd, x, y with
  | .slice el, .int _ l, .int _ c => opt (tt el) fun te => opt (cellsRow te c.toNat (zeroCs te c.toNat)) fun r =>
      req (0 ≤ l ∧ l ≤ c ∧ (te.bytes : Int) * c ≤ 281474976710656 ∧ c ≤ 9223372036854775807 ∧ r.sz = te.size ∧ r.len = c.toNat) (ret (.sl nb r.sz 0 l.toNat, [(nb, some (.vec el (r.take l.toNat)))]))
  | _, _, _ => none
theorem sound_make (hTT : TT P tt) {T : Nat} {ti : TI} {x y : Operand} {a b v : AV} {d : Del} (hT : TyOK P T ti) (hx : ev G t x = some a) (hy : ev G t y = some b) (h : Ok (mkQ tt nb ti a b) (v, d)) : OpSound P G t e nb ⟨dst, .makeSlice T x y, ty, pos, after, gd⟩ v d := by
  intro B ρ D t' e' c w ht hle hg hD
  have hx' := ev_sound hg ht hx
  have hy' := ev_sound hg ht hy
  clear hx hy
  cases hk : ti.kd <;> cases a <;> cases b <;> simp only [mkQ, hk] at h <;> first | exact h.none.elim | skip
  · rename_i el k1 l k2 cp
    have hh := h.opt
    clear h
    obtain ⟨te, he, h⟩ := hh
    have hh := h.opt
    clear h
    obtain ⟨r, hr, h⟩ := hh
    obtain ⟨⟨h1, h2, h3, h4, h5, h6⟩, h⟩ := h.req
    cases h.ret
    have hte := hTT _ _ he
    obtain ⟨i, hi, hisz, hiby, hiz⟩ := hte.info
    have hzc : (shape te.z (conc te.z)).cells = (conc te.z).toArray := (RC.conc ρ (Stab B ρ e' w) w D te.z hte.pl).cells
    have hrun := run_make (P := P) w T el i _ (hT.uslice hk) hi hiz k1 k2 l cp h1 h2 (by rw [hiby]; exact h3) h4
    have hcells : madeCells (shape te.z (conc te.z)).cells (cp.toNat * i.size) = (List.replicate cp.toNat (conc te.z)).flatten.toArray := by
      rw [hisz, made_flat _ _ te.size (by rw [hzc]; simpa using hte.zs), hzc]
    rw [hcells] at hrun
    have hrow := cellsRow_spec hr (zeroCs_RC hte ρ (Stab B ρ e' w) w D cp.toNat)
    have hrl := hrow.length
    have hpost := Post.row (nb := nb) (T := el) (len := l.toNat) (cap := cp.toNat) (c := (List.replicate cp.toNat (conc te.z)).flatten.toArray) hg.mem hD (hrow.take l.toNat) (by rw [List.toList_toArray, List.length_take, ← List.take_take, List.take_length]) (by omega) (by simp only [maxLen]; omega)
      (by rw [Row.take_sz]; simp only [List.size_toArray]; rw [hrl, h6])
    rw [Row.take_sz] at hpost
    refine .value ?_ hpost
    simp only [execOp, hx'.int_inv, hy'.int_inv, Sem.run_bind, hrun, Result.andThen_ok, Sem.run_pure]

def bslQ (tt : Nat → Option TI) (nb : Nat) (ti : TI) (n : Nat) (vs : List (Nat × AV)) : Q (AV × Del) :=
  match ti.kd with
  | .slice el => opt (tt el) fun te => bnd (bldA te vs (zeroCs te n)) fun cs => opt (cellsRow te n cs) fun r =>
      req (n * te.size ≤ 16777216 ∧ r.sz = te.size ∧ r.len = n ∧ n ≤ 16777216) (ret (.sl nb r.sz 0 n, [(nb, some (.vec el r))]))
  | _ => none
theorem sound_buildSlice (hTT : TT P tt) {T n : Nat} {ti : TI} {ps : Array (Nat × Operand)} {vs : List (Nat × AV)} {v : AV} {d : Del} (hT : TyOK P T ti) (hps : evP G t ps.toList = some vs) (h : Ok (bslQ tt nb ti n vs) (v, d)) :
    OpSound P G t e nb ⟨dst, .buildSlice T n ps, ty, pos, after, gd⟩ v d := by
  intro B ρ D t' e' a w ht hle hg hD
  have h2 := evP_sound hg ht hps
  have hparts : (ps.map fun (i, x) => (i, a.eval x)).toList = ps.toList.map fun p => (p.1, a.eval p.2) := by simp
  unfold bslQ at h
  split at h
  · next el hk =>
    have hh := h.opt
    clear h
    obtain ⟨te, he, h⟩ := hh
    have hh := h.bnd
    clear h
    obtain ⟨cs, hcs, h⟩ := hh
    have hh := h.opt
    clear h
    obtain ⟨r, hr, h⟩ := hh
    obtain ⟨⟨q1, q2, q3, q4⟩, h⟩ := h.req
    cases h.ret
    have hte := hTT _ _ he
    have hzc : (shape te.z (conc te.z)).cells = (conc te.z).toArray := (RC.conc ρ (Stab B ρ e' w) w D te.z hte.pl).cells
    obtain ⟨us, k1, k2⟩ := bldA_run h2 (zeroCs_RC hte ρ (Stab B ρ e' w) w D n) hcs
    have hrow := cellsRow_spec hr k2
    have hrl := hrow.length
    have hcells : madeCells (conc te.z).toArray (n * te.size) = (List.replicate n (conc te.z)).flatten.toArray := by
      rw [made_flat _ _ te.size (by simpa using hte.zs)]
    have hpost := Post.row (nb := nb) (T := el) (len := n) (cap := n) (c := us.toArray) hg.mem hD hrow (by simp) (Nat.le_refl _) (by simp only [maxLen]; omega) (by simp only [List.size_toArray]; rw [hrl, q3])
    refine .value ?_ hpost
    have hsm : ¬ (n * te.size > 2 ^ 24) := by omega
    obtain ⟨i, hi, hisz, hiby, hiz⟩ := hte.info
    have hgoal : (Instr.buildSlice T n (ps.map fun (i, x) => (i, a.eval x))).run P w = .ok (.slice (some ⟨w.heap.size, 0, none⟩) n n) (w.alloc (.cells us.toArray el)) := by
      by_cases hn : n * te.size = 0
      · have hemp : (List.replicate n (conc te.z)).flatten.toArray = #[] := by
          rw [← hcells, hn]; simp [madeCells]
        rw [hemp] at k1
        simp [Instr.buildSlice, run_underlying (hT.uslice hk), hte.run_size, hn, newRow]
        have hr0 : (Array.map (fun (_ : Nat) => (default : Value)) (Array.range 0)) = #[] := by simp
        rw [hr0, k1]
        simp
      · refine run_buildSlice w T el n _ us.toArray i _ (hT.uslice hk) hi hiz (by rw [hisz]; exact hsm) (by rw [hisz]; exact hn) ?_
        rw [hparts, hisz, hzc, ← k1, ← hcells]
        rfl
    simp only [execOp, Sem.run_bind, hgoal, Result.andThen_ok, Sem.run_pure]
  · exact h.none.elim

/-! ### The built-ins -/

def bltQ (tt : Nat → Option TI) (e : Ents) (nb : Nat) (b : Builtin) (ts : List TypeId) (as : List AV) : Q (AV × Del) :=
  match b, as with
  | .len, [x] => opt ts[0]? fun T => opt (tt T) fun ti => bnd (lenF ti.kd x) fun v => ret (v, [])
  | .min, [.int k x, .int _ y] => ret (.int k (if y < x then y else x), [])
  | .max, [.int k x, .int _ y] => ret (.int k (if x < y then y else x), [])
  | .append, [x, y] => match ts with
    | [T, T2] => opt (tt T2) fun t2 => match t2.kd, y with
      | .slice _, .str _ => none
      | .slice _, y => appQ tt e nb T x y
      | .str, .str s => appQ tt e nb T x (.str s)
      | _, _ => none
    | _ => none
  | .copy, [x, y] => match ts with
    | [T, T2] => opt (tt T2) fun t2 => match t2.kd, y with
      | .slice _, .str _ => none
      | .slice _, y => copyQ tt e T x y
      | .str, .str s => copyQ tt e T x (.str s)
      | _, _ => none
    | _ => none
  | _, _ => none
def bltV (tt : Nat → Option TI) (e : Ents) (b : Builtin) (ts : List TypeId) (as : List AV) : Q AV :=
  match b, as with
  | .append, [x, y] => match ts with
    | [T, T2] => opt (tt T2) fun t2 => match t2.kd, y with
      | .slice _, .str _ => none
      | .slice _, y => appV tt e T x y
      | .str, .str s => appV tt e T x (.str s)
      | _, _ => none
    | _ => none
  | _, _ => none

theorem evL_two {B : Nat → Prop} {ρ : Nat → Nat} {D : Nat → Prop} {t' : Tms} {e' : Ents} {a : Act} {w : World} (hg : Good B G ρ D t' e' a w) (ht : Le t t') : ∀ {l : List Operand} {as : List AV}, evL G t l = some as →
    Two (fun (x : Operand) (v : AV) => RV ρ (Stab B ρ e' w) w D v (a.eval x)) l as
  | [], _, h => by cases h; exact .nil
  | x :: l, _, h => by
    simp only [evL, Option.bind_eq_some_iff, Option.map_eq_some_iff] at h
    obtain ⟨v, h1, vs, h2, rfl⟩ := h
    exact .cons (ev_sound hg ht h1) (evL_two hg ht h2)

theorem exec_blt {b : Builtin} {xs : Array Operand} {ts : Array TypeId} {a : Act} {w : World} {us : List Value} (hu : xs.toList.map a.eval = us) : ∃ cf : Array Bool,
    (execOp a.eval ⟨dst, .call { callee := .builtin b, args := xs, argTypes := ts }, ty, pos, after, gd⟩).run P w = (builtin b ts ty cf us.toArray).run P w := by
  have : xs.map a.eval = us.toArray := by rw [← hu, ← List.map_toArray, Array.toArray_toList]
  refine ⟨xs.map fun | .const _ => true | _ => false, ?_⟩
  simp only [execOp, resolve, Sem.run_bind, Sem.run_pure, Result.andThen_ok, invoke, this]
  rfl

theorem kind2 (hTT : TT P tt) {T2 : Nat} {t2 : TI} {y : AV} (h2 : tt T2 = some t2) {el : Nat} (hk : t2.kd = .slice el) (hy : ∀ s, y ≠ .str s) :
    ((∃ s, y = .str s) → P.underlying T2 = some .string) ∧ ((∀ s, y ≠ .str s) → ∃ e', P.underlying T2 = some (.slice e')) :=
  ⟨fun ⟨s, hs⟩ => absurd hs (hy s), fun _ => ⟨el, (hTT _ _ h2).uslice hk⟩⟩
theorem kind2s (hTT : TT P tt) {T2 : Nat} {t2 : TI} {s : ByteArray} (h2 : tt T2 = some t2) (hk : t2.kd = .str) :
    ((∃ s', AV.str s = .str s') → P.underlying T2 = some .string) ∧ ((∀ s', AV.str s ≠ .str s') → ∃ e', P.underlying T2 = some (.slice e')) :=
  ⟨fun _ => (hTT _ _ h2).ustr hk, fun h => absurd rfl (h s)⟩

theorem sound_blt (hTT : TT P tt) {b : Builtin} {xs : Array Operand} {ts : Array TypeId} {as : List AV} {v : AV} {d : Del} (has : evL G t xs.toList = some as) (h : Ok (bltQ tt e nb b ts.toList as) (v, d)) :
    OpSound P G t e nb ⟨dst, .call { callee := .builtin b, args := xs, argTypes := ts }, ty, pos, after, gd⟩ v d := by
  intro B ρ D t' e' a w ht hle hg hD
  have h2 := evL_two hg ht has
  clear has
  have one : ∀ x, as = [x] → ∃ u, xs.toList.map a.eval = [u] ∧ RV ρ (Stab B ρ e' w) w D x u := by
    rintro x rfl
    generalize xs.toList = l at h2
    cases h2 with
    | cons h hs => cases hs; exact ⟨_, rfl, h⟩
  have two : ∀ x y, as = [x, y] → ∃ u u', xs.toList.map a.eval = [u, u'] ∧ RV ρ (Stab B ρ e' w) w D x u ∧ RV ρ (Stab B ρ e' w) w D y u' := by
    rintro x y rfl
    generalize xs.toList = l at h2
    cases h2 with
    | cons h hs => cases hs with
      | cons h' hs => cases hs; exact ⟨_, _, rfl, h, h'⟩
  unfold bltQ at h
  split at h
  · next x =>
    have hh := h.opt
    clear h
    obtain ⟨T, hT, h⟩ := hh
    have hh := h.opt
    clear h
    obtain ⟨ti, hti, h⟩ := hh
    obtain ⟨v', h3, h⟩ := h.bnd
    cases h.ret
    obtain ⟨u, hu, hr⟩ := one x rfl
    obtain ⟨cf, he⟩ := exec_blt (P := P) (b := .len) (ts := ts) (dst := dst) (ty := ty) (pos := pos) (after := after) (gd := gd) (w := w) hu
    obtain ⟨r, k1, k2⟩ := lenF_run (hTT _ _ hti) hr h3 ts (by simpa using hT) cf ty
    exact .value (by rw [he]; exact k1) (Post.pure hg.mem k2)
  · next k x k' y =>
    cases h.ret
    obtain ⟨u, u', hu, hr, hr'⟩ := two _ _ rfl
    obtain ⟨cf, he⟩ := exec_blt (P := P) (b := .min) (ts := ts) (dst := dst) (ty := ty) (pos := pos) (after := after) (gd := gd) (w := w) hu
    refine .value (x := .int k (if y < x then y else x)) (w' := w) ?_ (Post.pure hg.mem .ofInt)
    rw [he, hr.int_inv, hr'.int_inv]
    simp only [builtin, Sem.run_bind, run_min_int2, Result.andThen_ok, Sem.run_pure]
  · next k x k' y =>
    cases h.ret
    obtain ⟨u, u', hu, hr, hr'⟩ := two _ _ rfl
    obtain ⟨cf, he⟩ := exec_blt (P := P) (b := .max) (ts := ts) (dst := dst) (ty := ty) (pos := pos) (after := after) (gd := gd) (w := w) hu
    refine .value (x := .int k (if x < y then y else x)) (w' := w) ?_ (Post.pure hg.mem .ofInt)
    rw [he, hr.int_inv, hr'.int_inv]
    simp only [builtin, Sem.run_bind, run_max_int2, Result.andThen_ok, Sem.run_pure, gt_iff_lt]
  · next x y =>
    obtain ⟨u, u', hu, hr, hr'⟩ := two _ _ rfl
    obtain ⟨cf, he⟩ := exec_blt (P := P) (b := .append) (ts := ts) (dst := dst) (ty := ty) (pos := pos) (after := after) (gd := gd) (w := w) hu
    split at h
    · next T T2 hts =>
      have hts' : ts = #[T, T2] := by rw [← Array.toArray_toList (xs := ts), hts]
      have fin : Ok (appQ tt e nb T x y) (v, d) → (((∃ s, y = .str s) → P.underlying T2 = some .string) ∧ ((∀ s, y ≠ .str s) → ∃ e', P.underlying T2 = some (.slice e'))) →
          Runs P ⟨dst, .call { callee := .builtin .append, args := xs, argTypes := ts }, ty, pos, after, gd⟩ a w (Post B ρ D e' w nb v d) := by
        intro h hk
        obtain ⟨r, w', k1, k2⟩ := app_run hTT hg hle hD hr hr' h ty hk.1 hk.2
        refine .value (x := r) (w' := w') ?_ k2
        rw [he, hts']
        simp only [builtin, Sem.run_bind, k1, Result.andThen_ok, Sem.run_pure]
      have hh := h.opt
      clear h
      obtain ⟨t2, ht2, h⟩ := hh
      split at h
      · exact h.none.elim
      · next el hk hns => exact fin h (kind2 hTT ht2 hk (fun s hs => hns s hs))
      · next s hk => exact fin h (kind2s hTT ht2 hk)
      · exact h.none.elim
    · exact h.none.elim
  · next x y =>
    obtain ⟨u, u', hu, hr, hr'⟩ := two _ _ rfl
    obtain ⟨cf, he⟩ := exec_blt (P := P) (b := .copy) (ts := ts) (dst := dst) (ty := ty) (pos := pos) (after := after) (gd := gd) (w := w) hu
    split at h
    · next T T2 hts =>
      have hts' : ts = #[T, T2] := by rw [← Array.toArray_toList (xs := ts), hts]
      have fin : Ok (copyQ tt e T x y) (v, d) → (((∃ s, y = .str s) → P.underlying T2 = some .string) ∧ ((∀ s, y ≠ .str s) → ∃ e', P.underlying T2 = some (.slice e'))) →
          Runs P ⟨dst, .call { callee := .builtin .copy, args := xs, argTypes := ts }, ty, pos, after, gd⟩ a w (Post B ρ D e' w nb v d) := by
        intro h hk
        obtain ⟨r, w', k1, k2⟩ := copy_run (nb := nb) hTT hg hle hr hr' h ty hk.1 hk.2
        refine .value (x := r) (w' := w') ?_ k2
        rw [he, hts']
        simp only [builtin, Sem.run_bind, k1, Result.andThen_ok, Sem.run_pure]
      have hh := h.opt
      clear h
      obtain ⟨t2, ht2, h⟩ := hh
      split at h
      · exact h.none.elim
      · next el hk hns => exact fin h (kind2 hTT ht2 hk (fun s hs => hns s hs))
      · next s hk => exact fin h (kind2s hTT ht2 hk)
      · exact h.none.elim
    · exact h.none.elim
  · exact h.none.elim

theorem sound_bltV (hTT : TT P tt) {b : Builtin} {xs : Array Operand} {ts : Array TypeId} {as : List AV} {v : AV} (has : evL G t xs.toList = some as) (h : Ok (bltV tt e b ts.toList as) v) :
    OpSound P G t e nb ⟨dst, .call { callee := .builtin b, args := xs, argTypes := ts }, ty, pos, after, gd⟩ v [] := by
  intro B ρ D t' e' a w ht hle hg hD
  have h2 := evL_two hg ht has
  clear has
  have two : ∀ x y, as = [x, y] → ∃ u u', xs.toList.map a.eval = [u, u'] ∧ RV ρ (Stab B ρ e' w) w D x u ∧ RV ρ (Stab B ρ e' w) w D y u' := by
    rintro x y rfl
    generalize xs.toList = l at h2
    cases h2 with
    | cons h hs => cases hs with
      | cons h' hs => cases hs; exact ⟨_, _, rfl, h, h'⟩
  unfold bltV at h
  split at h
  · next x y =>
    obtain ⟨u, u', hu, hr, hr'⟩ := two _ _ rfl
    obtain ⟨cf, he⟩ := exec_blt (P := P) (b := .append) (ts := ts) (dst := dst) (ty := ty) (pos := pos) (after := after) (gd := gd) (w := w) hu
    split at h
    · next T T2 hts =>
      have hts' : ts = #[T, T2] := by rw [← Array.toArray_toList (xs := ts), hts]
      have fin : Ok (appV tt e T x y) v → (((∃ s, y = .str s) → P.underlying T2 = some .string) ∧ ((∀ s, y ≠ .str s) → ∃ e', P.underlying T2 = some (.slice e'))) →
          Runs P ⟨dst, .call { callee := .builtin .append, args := xs, argTypes := ts }, ty, pos, after, gd⟩ a w (Post B ρ D e' w nb v []) := by
        intro h hk
        obtain ⟨r, w', k1, k2⟩ := appV_run (nb := nb) hTT hg hle hr hr' h ty hk.1 hk.2
        refine .value (x := r) (w' := w') ?_ k2
        rw [he, hts']
        simp only [builtin, Sem.run_bind, k1, Result.andThen_ok, Sem.run_pure]
      have hh := h.opt
      clear h
      obtain ⟨t2, ht2, h⟩ := hh
      split at h
      · exact h.none.elim
      · next el hk hns => exact fin h (kind2 hTT ht2 hk (fun s hs => hns s hs))
      · next s hk => exact fin h (kind2s hTT ht2 hk)
      · exact h.none.elim
    · exact h.none.elim
  · exact h.none.elim
end
end Sx
