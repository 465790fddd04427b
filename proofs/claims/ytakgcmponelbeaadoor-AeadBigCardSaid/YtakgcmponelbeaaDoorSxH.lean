/- Operations that only reckon. -/
import Derived.Test.YtakgcmponelbeaaDoorSxD
set_option linter.unusedVariables false
set_option linter.unusedSimpArgs false
namespace Sx
open Go

/-- Two integers of one kind. -/
def intF (op : BinOp) (k : IntKind) (a b : Int) : Q AV :=
  match op with
  | .add => ret (.int k (k.wrap (a + b)))
  | .sub => ret (.int k (k.wrap (a - b)))
  | .mul => ret (.int k (k.wrap (a * b)))
  | .quo => req (b ≠ 0) (ret (.int k (k.wrap (a.tdiv b))))
  | .rem => req (b ≠ 0) (ret (.int k (a.tmod b)))
  | .and => ret (.int k (bits .and k a b))
  | .or => ret (.int k (bits .or k a b))
  | .xor => ret (.int k (bits .xor k a b))
  | .andNot => ret (.int k (bits .andNot k a b))
  | .eql => ret (.bool (a == b))
  | .neq => ret (.bool (a != b))
  | .lss => ret (.bool (decide (a < b)))
  | .leq => ret (.bool (decide (a ≤ b)))
  | .gtr => ret (.bool (decide (b < a)))
  | .geq => ret (.bool (decide (b ≤ a)))
  | _ => none
def shiftF (op : BinOp) (k : IntKind) (a b : Int) : Q AV :=
  match op with
  | .shl => req (0 ≤ b) (ret (.int k (k.wrap (a * 2 ^ (min b.toNat k.bits)))))
  | .shr => req (0 ≤ b) (ret (.int k (a.fdiv (2 ^ (min b.toNat k.bits)))))
  | _ => none
def strF (op : BinOp) (x y : ByteArray) : Q AV :=
  match op with
  | .add => req (x.size + y.size ≤ 9223372036854775807) (ret (.str (x ++ y)))
  | .eql => ret (.bool (x.toList == y.toList))
  | .neq => ret (.bool !(x.toList == y.toList))
  | .lss => ret (.bool (Op.bytesLess x.toList y.toList))
  | .leq => ret (.bool (Op.bytesLess x.toList y.toList || x.toList == y.toList))
  | .gtr => ret (.bool !(Op.bytesLess x.toList y.toList || x.toList == y.toList))
  | .geq => ret (.bool !(Op.bytesLess x.toList y.toList))
  | _ => none
def binF (op : BinOp) (a b : AV) : Q AV :=
  match a, b with
  | .int k x, .int k' y =>
    match op with
    | .shl => shiftF .shl k x y
    | .shr => shiftF .shr k x y
    | op => req (k = k') (intF op k x y)
  | .str x, .str y => strF op x y
  | _, _ => none

section
variable {P : Program} {G : Nat → Option AV} {t : Tms} {e : Ents} {nb : Nat} {dst : Option Tmp} {ty : TypeId} {pos : String} {after : Array Edge} {gd : Option (Nat × Bool)}

theorem RV.int_inv {ρ : Nat → Nat} {S : Nat → Prop} {w : World} {N : Nat → Prop} {k : IntKind} {n : Int} {v : Value} (h : RV ρ S w N (.int k n) v) : v = .int k n := by
  cases h with
  | one h => cases h; rfl
theorem RV.str_inv {ρ : Nat → Nat} {S : Nat → Prop} {w : World} {N : Nat → Prop} {s : ByteArray} {v : Value} (h : RV ρ S w N (.str s) v) : v = .string s := by
  cases h with
  | one h => cases h; rfl
theorem RV.bool_inv {ρ : Nat → Nat} {S : Nat → Prop} {w : World} {N : Nat → Prop} {b : Bool} {v : Value} (h : RV ρ S w N (.bool b) v) : v = .bool b := by
  cases h with
  | one h => cases h; rfl
theorem RV.ofInt {ρ : Nat → Nat} {S : Nat → Prop} {w : World} {N : Nat → Prop} {k : IntKind} {n : Int} : RV ρ S w N (.int k n) (.int k n) := .one (cs := [_]) .int
theorem RV.ofBool {ρ : Nat → Nat} {S : Nat → Prop} {w : World} {N : Nat → Prop} {b : Bool} : RV ρ S w N (.bool b) (.bool b) := .one (cs := [_]) .bool
theorem RV.ofStr {ρ : Nat → Nat} {S : Nat → Prop} {w : World} {N : Nat → Prop} {s : ByteArray} : RV ρ S w N (.str s) (.string s) := .one (cs := [_]) .str

theorem eqGuard_int (op : BinOp) (T : TypeId) (x y : Operand) (k k' : IntKind) (a b : Int) (w : World) : (eqGuard op T x y (.int k a) (.int k' b)).run P w = .ok () w := by
  unfold eqGuard; cases op <;> simp
theorem eqGuard_str (op : BinOp) (T : TypeId) (x y : Operand) (a b : ByteArray) (w : World) : (eqGuard op T x y (.string a) (.string b)).run P w = .ok () w := by
  unfold eqGuard; cases op <;> simp

theorem intF_run {op : BinOp} {k : IntKind} {a b : Int} {v : AV} (hop : op ≠ .shl ∧ op ≠ .shr) (T : TypeId) (w : World) (h : Ok (intF op k a b) v) :
    ∃ u, (binOp op T (.int k a) (.int k b)).run P w = .ok u w ∧ ∀ ρ S N, RV ρ S w N v u := by
  cases op <;> simp only [intF] at h
  case shl => exact absurd rfl hop.1
  case shr => exact absurd rfl hop.2
  case quo => obtain ⟨h0, h⟩ := h.req; have := h.ret; subst this; exact ⟨_, by simp [binOp, Op.intDiv, h0], fun _ _ _ => .ofInt⟩
  case rem => obtain ⟨h0, h⟩ := h.req; have := h.ret; subst this; exact ⟨_, by simp [binOp, Op.intDiv, h0], fun _ _ _ => .ofInt⟩
  case add => have := h.ret; subst this; exact ⟨_, by simp [binOp, Op.intArith], fun _ _ _ => .ofInt⟩
  case sub => have := h.ret; subst this; exact ⟨_, by simp [binOp, Op.intArith], fun _ _ _ => .ofInt⟩
  case mul => have := h.ret; subst this; exact ⟨_, by simp [binOp, Op.intArith], fun _ _ _ => .ofInt⟩
  case and => have := h.ret; subst this; exact ⟨_, by simp [binOp, Op.intBits, bits], fun _ _ _ => .ofInt⟩
  case or => have := h.ret; subst this; exact ⟨_, by simp [binOp, Op.intBits, bits], fun _ _ _ => .ofInt⟩
  case xor => have := h.ret; subst this; exact ⟨_, by simp [binOp, Op.intBits, bits], fun _ _ _ => .ofInt⟩
  case andNot => have := h.ret; subst this; exact ⟨_, by simp [binOp, Op.intBits, bits], fun _ _ _ => .ofInt⟩
  case eql => have := h.ret; subst this; exact ⟨_, by simp [binOp, Op.intCmp], fun _ _ _ => .ofBool⟩
  case neq => have := h.ret; subst this; exact ⟨_, by simp [binOp, Op.intCmp], fun _ _ _ => .ofBool⟩
  case lss => have := h.ret; subst this; exact ⟨_, by simp [binOp, Op.intCmp], fun _ _ _ => .ofBool⟩
  case leq => have := h.ret; subst this; exact ⟨_, by simp [binOp, Op.intCmp], fun _ _ _ => .ofBool⟩
  case gtr => have := h.ret; subst this; exact ⟨_, by simp [binOp, Op.intCmp], fun _ _ _ => .ofBool⟩
  case geq => have := h.ret; subst this; exact ⟨_, by simp [binOp, Op.intCmp], fun _ _ _ => .ofBool⟩
  all_goals exact h.none.elim

theorem binF_run {op : BinOp} {a b v : AV} {x y : Value} {ρ : Nat → Nat} {S : Nat → Prop} {w : World} {N : Nat → Prop} (hx : RV ρ S w N a x) (hy : RV ρ S w N b y) (X Y : Operand) (T : TypeId) (h : Ok (binF op a b) v) :
    ∃ u, (do eqGuard op T X Y x y; binOp op T x y : Sem Value).run P w = .ok u w ∧ RV ρ S w N v u := by
  unfold binF at h
  split at h
  · next k a' k' b' =>
    obtain rfl := hx.int_inv
    obtain rfl := hy.int_inv
    split at h
    · simp only [shiftF] at h
      obtain ⟨h0, h⟩ := h.req
      have := h.ret; subst this
      exact ⟨_, by simp [eqGuard_int, binOp, Op.shift, Int.not_lt.2 h0], .ofInt⟩
    · simp only [shiftF] at h
      obtain ⟨h0, h⟩ := h.req
      have := h.ret; subst this
      exact ⟨_, by simp [eqGuard_int, binOp, Op.shift, Int.not_lt.2 h0], .ofInt⟩
    · next h1 h2 =>
      obtain ⟨h0, h'⟩ := h.req
      subst h0
      obtain ⟨u, hu, hr⟩ := intF_run (P := P) ⟨fun q => h1 q, fun q => h2 q⟩ T w h'
      exact ⟨u, by simp [eqGuard_int, hu], hr _ _ _⟩
  · next a' b' =>
    obtain rfl := hx.str_inv
    obtain rfl := hy.str_inv
    cases op <;> simp only [strF] at h
    case add =>
      obtain ⟨h0, h⟩ := h.req
      have := h.ret; subst this
      have h1 : ¬ ((a'.size + b'.size : Nat) : Int) > IntKind.i64.max := by
        have : IntKind.i64.max = 9223372036854775807 := rfl
        omega
      exact ⟨_, by simp only [Sem.run_bind, eqGuard_str, Result.andThen_ok, binOp, Op.stringOp, if_neg h1, Sem.run_pure], .ofStr⟩
    case eql => have := h.ret; subst this; exact ⟨_, by simp [eqGuard_str, binOp, Op.stringOp], .ofBool⟩
    case neq => have := h.ret; subst this; exact ⟨_, by simp [eqGuard_str, binOp, Op.stringOp], .ofBool⟩
    case lss => have := h.ret; subst this; exact ⟨_, by simp [eqGuard_str, binOp, Op.stringOp], .ofBool⟩
    case leq => have := h.ret; subst this; exact ⟨_, by simp [eqGuard_str, binOp, Op.stringOp], .ofBool⟩
    case gtr => have := h.ret; subst this; exact ⟨_, by simp [eqGuard_str, binOp, Op.stringOp], .ofBool⟩
    case geq => have := h.ret; subst this; exact ⟨_, by simp [eqGuard_str, binOp, Op.stringOp], .ofBool⟩
    all_goals exact h.none.elim
  · exact h.none.elim

theorem sound_bin {op : BinOp} {T yt : TypeId} {x y : Operand} {a b v : AV} (hx : ev G t x = some a) (hy : ev G t y = some b) (h : Ok (binF op a b) v) : OpSound P G t e nb ⟨dst, .binOp op T x y yt, ty, pos, after, gd⟩ v [] := by
  intro B ρ D t' e' c w ht _ hg _
  obtain ⟨u, hu, hr⟩ := binF_run (P := P) (ev_sound hg ht hx) (ev_sound hg ht hy) x y T h
  refine .value (x := u) (w' := w) ?_ (Post.pure hg.mem hr)
  simp only [execOp]
  rw [Sem.run_bind, hu]
  rfl

def unF (op : UnOp) (a : AV) : Q AV :=
  match op, a with
  | .neg, .int k n => ret (.int k (k.wrap (0 - n)))
  | .xor, .int k n => ret (.int k (bits .xor k (if k.signed then -1 else k.max) n))
  | .not, .bool b => ret (.bool !b)
  | _, _ => none
theorem sound_un {op : UnOp} {T : TypeId} {x : Operand} {a v : AV} (hx : ev G t x = some a) (h : Ok (unF op a) v) : OpSound P G t e nb ⟨dst, .unOp op T x, ty, pos, after, gd⟩ v [] := by
  intro B ρ D t' e' c w ht _ hg _
  have hx := ev_sound hg ht hx
  unfold unF at h
  split at h
  · have := h.ret; subst this
    exact .value (w' := w) (by simp only [execOp, hx.int_inv, Op.unary, Op.intArith, Sem.run_bind, Sem.run_pure, Result.andThen_ok]) (Post.pure hg.mem .ofInt)
  · have := h.ret; subst this
    exact .value (w' := w) (by simp only [execOp, hx.int_inv, Op.unary, intBits_xor, Sem.run_bind, Sem.run_pure, Result.andThen_ok]) (Post.pure hg.mem .ofInt)
  · have := h.ret; subst this
    exact .value (w' := w) (by simp only [execOp, hx.bool_inv, Op.unary, Sem.run_bind, Sem.run_pure, Result.andThen_ok]) (Post.pure hg.mem .ofBool)
  · exact h.none.elim

/-- An integer of another kind. -/
theorem sound_conv_int {T1 T2 : Nat} {t1 t2 : TI} {x : Operand} {k k0 k' : IntKind} {n : Int} (h1 : TyOK P T1 t1) (h2 : TyOK P T2 t2) (hk : t1.kd = .int k0) (hk2 : t2.kd = .int k') (hx : ev G t x = some (.int k n)) :
    OpSound P G t e nb ⟨dst, .convert T1 T2 x, ty, pos, after, gd⟩ (.int k' (k'.wrap n)) [] := by
  intro B ρ D t' e' c w ht _ hg _
  have hx := (ev_sound hg ht hx).int_inv
  exact .value (w' := w) (by simp only [execOp, hx, convert, Sem.run_bind, run_underlying (h1.uint hk), run_underlying (h2.uint hk2), Result.andThen_ok, Conv.intToInt, Sem.run_pure]) (Post.pure hg.mem .ofInt)

/-! ### Fields and elements -/

theorem addr_add (b o n : Nat) : (⟨b, o, none⟩ : Addr).add n = ⟨b, o + n, none⟩ := by
  unfold Addr.add
  split
  · next h => subst h; rfl
  · rfl


theorem run_underlying' {T : Nat} {d : TypeDesc} (h : P.underlying T = some d) (w : World) : (underlying T).run P w = .ok d w := run_underlying h w

/-- A field of what is pointed at, or of a value. -/
def fldF (tt : Nat → Option TI) (ti : TI) (f : Nat) (p : AV) : Q AV :=
  match ti.kd, p with
  | .strct fs, .ptr nm o i sz => opt fs[f]? fun q => opt (tt q.2) fun tf => req (tf.size ≠ 0) (ret (.ptr nm (o + q.1) i sz))
  | .strct fs, .pel v => opt fs[f]? fun q => opt (tt q.2) fun tf => req (tf.size ≠ 0) (opt (dropC (comps v) q.1) fun ds => opt (takeC ds tf.size) fun es => ret (.pel (.agg es)))
  | _, _ => none

theorem field_get {fs : List (Nat × Nat)} {gs : Array Field} {f : Nat} {q : Nat × Nat} (h : gs.toList.map (fun f => (f.offset, f.type)) = fs) (hf : fs[f]? = some q) : ∃ g, gs[f]? = some g ∧ g.offset = q.1 ∧ g.type = q.2 := by
  subst h
  rw [List.getElem?_map, Option.map_eq_some_iff] at hf
  obtain ⟨g, hg, rfl⟩ := hf
  exact ⟨g, by simpa using hg, rfl, rfl⟩

theorem sound_fieldAddr {tt : Nat → Option TI} (hTT : TT P tt) {T : Nat} {ti : TI} {x : Operand} {f : Nat} {p v : AV} (hT : TyOK P T ti) (hx : ev G t x = some p) (h : Ok (fldF tt ti f p) v) :
    OpSound P G t e nb ⟨dst, .fieldAddr T x f, ty, pos, after, gd⟩ v [] := by
  intro B ρ D t' e' c w ht _ hg _
  have hx := ev_sound hg ht hx
  cases hk : ti.kd <;> cases p <;> simp only [fldF, hk] at h <;> first | exact h.none.elim | skip
  · rename_i fs nm o i sz _
    obtain ⟨q, hq, h⟩ := h.opt
    obtain ⟨tf, htf, h⟩ := h.opt
    obtain ⟨hz, h⟩ := h.req
    have := h.ret; subst this
    obtain ⟨gs, hu, hgs⟩ := hT.ustruct hk
    obtain ⟨g, hg1, hg2, hg3⟩ := field_get hgs hq
    obtain ⟨cs, hv, hr⟩ := hx.inv (by simp)
    cases hr with
    | ptr hn =>
      have hs := (hTT _ _ htf).run_size (P := P) w
      refine .value (x := .pointer (some ⟨ρ nm, o + q.1 + i * sz, none⟩)) (w' := w) ?_ (Post.pure hg.mem (.one (cs := [_]) (.ptr hn)))
      have hv' : c.eval x = .pointer (some ⟨ρ nm, o + i * sz, none⟩) := hv
      have hadd : (⟨ρ nm, o + i * sz, none⟩ : Addr).add g.offset = ⟨ρ nm, o + q.1 + i * sz, none⟩ := by rw [addr_add, hg2]; congr 1; omega
      simp only [execOp, hv', Instr.fieldAt, Sem.run_bind, run_underlying hu, Result.andThen_ok, hg1, Instr.sureAddr, Sem.run_pure, fieldPlace, hg3, hs, if_neg hz, hadd]
  · rename_i fs v0 _
    obtain ⟨q, hq, h⟩ := h.opt
    obtain ⟨tf, htf, h⟩ := h.opt
    obtain ⟨hz, h⟩ := h.req
    obtain ⟨ds, hds, h⟩ := h.opt
    obtain ⟨es, hes, h⟩ := h.opt
    have := h.ret; subst this
    obtain ⟨gs, hu, hgs⟩ := hT.ustruct hk
    obtain ⟨g, hg1, hg2, hg3⟩ := field_get hgs hq
    obtain ⟨cs, hv, hr⟩ := hx.inv (by simp)
    cases hr with
    | pel hr hs0 hc =>
      rename_i b o vals
      have hs := (hTT _ _ htf).run_size (P := P) w
      obtain ⟨k1, k2⟩ := hr.comps.drop hds
      obtain ⟨k3, k4⟩ := k1.take hes
      refine .value (x := .pointer (some ⟨b, o + q.1, none⟩)) (w' := w) ?_ (Post.pure hg.mem (.one (cs := [_]) (.pel k3 hs0 (fun j u hj => ?_))))
      · have hv' : c.eval x = .pointer (some ⟨b, o, none⟩) := hv
        have hadd : (⟨b, o, none⟩ : Addr).add g.offset = ⟨b, o + q.1, none⟩ := by rw [addr_add, hg2]
        simp only [execOp, hv', Instr.fieldAt, Sem.run_bind, run_underlying hu, Result.andThen_ok, hg1, Instr.sureAddr, Sem.run_pure, fieldPlace, hg3, hs, if_neg hz, hadd]
      · rw [List.getElem?_take] at hj
        split at hj
        · rw [List.getElem?_drop] at hj
          rw [Nat.add_assoc]
          exact hc _ _ hj
        · cases hj

/-- A part of cells, at a type. -/
theorem part_run {T : Nat} {ti : TI} (hT : TyOK P T ti) {ρ : Nat → Nat} {S : Nat → Prop} {w : World} {N : Nat → Prop} {cs : List AV} {vals : List Value} {o i : Nat} {v : AV}
    (h : RC ρ S w N (.agg cs) vals) (hl : Ok (ldC ti cs o i) v) : ∃ x, RV ρ S w N v x ∧ (part T vals.toArray (o + i)).run P w = .ok x w := by
  unfold ldC at hl
  split at hl
  · next hag =>
    obtain ⟨h0, hl1⟩ := hl.req
    subst h0
    obtain ⟨ds, hd, hl2⟩ := hl1.opt
    obtain ⟨es, he, hk⟩ := hl2.opt
    have := hk.ret; subst this
    obtain ⟨h1, hle⟩ := h.drop hd
    obtain ⟨h2, hle2⟩ := h1.take he
    refine ⟨_, .one h2, ?_⟩
    simp only [part, Sem.run_bind, hT.run_agg, hag, Result.andThen_ok, if_true, hT.run_size, Sem.run_pure, Nat.add_zero, shape, AV.isAgg, cond_true]
    congr 2
    apply Array.toList_inj.1
    simp [List.take_drop]
  · next hag =>
    obtain ⟨u, hv, hg, hr⟩ := h.ldS hl
    refine ⟨u, ?_, ?_⟩
    · have := RV.one hr
      rwa [shape_one hv] at this
    · have hag : ti.kd.agg = false := by simpa using hag
      simp [part, hT.run_agg, hag, hg]

theorem sound_field {tt : Nat → Option TI} (hTT : TT P tt) {T : Nat} {ti : TI} {x : Operand} {f : Nat} {cs : List AV} {fs : List (Nat × Nat)} {q : Nat × Nat} {tf : TI} {v : AV} (hT : TyOK P T ti) (hk : ti.kd = .strct fs) (hq : fs[f]? = some q) (htf : tt q.2 = some tf)
    (hx : ev G t x = some (.agg cs)) (h : Ok (ldC tf cs q.1 0) v) : OpSound P G t e nb ⟨dst, .field T x f, ty, pos, after, gd⟩ v [] := by
  intro B ρ D t' e' c w ht _ hg _
  obtain ⟨vals, hv, hr⟩ := (ev_sound hg ht hx).inv (by simp)
  obtain ⟨gs, hu, hgs⟩ := hT.ustruct hk
  obtain ⟨g, hg1, hg2, hg3⟩ := field_get hgs hq
  obtain ⟨y, h1, h2⟩ := part_run (P := P) (hTT _ _ htf) hr h
  refine .value (x := y) (w' := w) ?_ (Post.pure hg.mem h1)
  have hv' : c.eval x = .agg vals.toArray := hv
  simp only [Nat.add_zero] at h2
  simp only [execOp, hv', Instr.field, Sem.run_bind, run_underlying hu, Result.andThen_ok, hg1, asAgg, Sem.run_pure, hg2, hg3, h2]

end

end Sx
