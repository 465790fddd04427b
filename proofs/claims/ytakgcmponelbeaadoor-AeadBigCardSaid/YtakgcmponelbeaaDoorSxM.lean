/- Regions, calls and functions. -/
import Derived.Test.YtakgcmponelbeaaDoorSxL
set_option linter.unusedVariables false
set_option linter.unusedSimpArgs false
namespace Sx
open Go

mutual
/-- The one may be taken for the other: nil is an empty slice by value. -/
def AV.sub : AV → AV → Prop
  | .nils, .lstI _ xs => xs = []
  | .nils, .lstS ss => ss = []
  | .nils, .lst _ l => l = []
  | .agg l, .agg l' => AV.subL l l'
  | a, b => a = b
def AV.subL : List AV → List AV → Prop
  | [], [] => True
  | a :: l, b :: l' => AV.sub a b ∧ AV.subL l l'
  | _, _ => False
end

section
variable {ρ : Nat → Nat} {S : Nat → Prop} {w : World} {N : Nat → Prop}
mutual
theorem RC.sub : ∀ (a b : AV) (cs : List Value), RC ρ S w N a cs → AV.sub a b → RC ρ S w N b cs
  | .nils, b, cs, h, hs => by
    cases h
    cases b <;> simp only [AV.sub] at hs <;> first | (subst hs) | (cases hs; done) | skip
    · exact .nils
    · exact .lstI (k := _) (xs := []) (a := none) (cap := 0) (by simp) (by simp) (fun i x h => by simp at h)
    · exact .lstS (ss := []) (a := none) (cap := 0) (by simp) (by simp) (fun i x h => by simp at h)
    · exact .lst (l := []) (a := none) (cap := 0) (fun _ => []) (by simp) (by simp) (fun i x h => by simp at h) (fun i x h => by simp at h)
  | .agg l, b, cs, h, hs => by
    cases b <;> simp only [AV.sub] at hs <;> first | (cases hs; done) | skip
    exact RC.subL l _ cs h hs
  | .int _ _, b, cs, h, hs | .bool _, b, cs, h, hs | .str _, b, cs, h, hs | .ints _ _ _, b, cs, h, hs | .tup _, b, cs, h, hs | .ptr _ _ _ _, b, cs, h, hs | .pel _, b, cs, h, hs | .sl _ _ _ _, b, cs, h, hs
  | .nilp, b, cs, h, hs | .nilf, b, cs, h, hs | .nili, b, cs, h, hs | .nilm, b, cs, h, hs | .lstI _ _, b, cs, h, hs | .lstS _, b, cs, h, hs | .lst _ _, b, cs, h, hs | .fn _ _, b, cs, h, hs | .ifc _ _, b, cs, h, hs | .mp _, b, cs, h, hs => by
    simp only [AV.sub] at hs; subst hs; exact h
theorem RC.subL : ∀ (l l' : List AV) (cs : List Value), RC ρ S w N (.agg l) cs → AV.subL l l' → RC ρ S w N (.agg l') cs
  | [], [], cs, h, _ => h
  | a :: l, b :: l', cs, h, hs => by
    cases h with
    | cons h1 h2 => exact .cons (RC.sub a b _ h1 hs.1) (RC.subL l l' _ h2 hs.2)
  | [], _ :: _, _, _, hs => hs.elim
  | _ :: _, [], _, _, hs => hs.elim
end
theorem AV.sub_agg {a b : AV} (h : AV.sub a b) : b.isAgg = a.isAgg := by
  cases a <;> cases b <;> simp only [AV.sub] at h <;> first | rfl | (cases h; done) | (cases h; rfl)
theorem AV.sub_tup {l : List AV} {b : AV} (h : AV.sub (.tup l) b) : b = .tup l := by
  cases b <;> simp only [AV.sub] at h <;> first | (cases h; done) | (cases h; rfl)
theorem RV.sub {a b : AV} {v : Value} (h : RV ρ S w N a v) (hs : AV.sub a b) : RV ρ S w N b v := by
  cases h with
  | one h =>
    rename_i cs
    have e : shape a cs = shape b cs := by simp only [shape, AV.sub_agg hs]
    rw [e]; exact .one (RC.sub a b cs h hs)
  | tup hl h => rw [AV.sub_tup hs]; exact .tup hl h
theorem AV.subL_get : ∀ {l l' : List AV}, AV.subL l l' → l.length = l'.length ∧ ∀ (i : Nat) y, l'[i]? = some y → ∃ x, l[i]? = some x ∧ AV.sub x y
  | [], [], _ => ⟨rfl, fun i y h => by simp at h⟩
  | a :: l, b :: l', h => by
    obtain ⟨h1, h2⟩ := AV.subL_get (l := l) (l' := l') h.2
    refine ⟨by simp [h1], fun i y hi => ?_⟩
    cases i with
    | zero => simp at hi; subst hi; exact ⟨a, rfl, h.1⟩
    | succ i => simpa using h2 i y (by simpa using hi)
  | [], _ :: _, h => h.elim
  | _ :: _, [], h => h.elim
end

theorem FnR.sub {P : Program} {G : Nat → Option AV} {f : FuncId} {args args' : List AV} {h h' : Ents} {r : AV} (hF : FnR P G f args' h r h') (hs : AV.subL args args') : FnR P G f args h r h' := by
  intro B ρ w vs hb hm hg hl ha
  obtain ⟨h1, h2⟩ := AV.subL_get hs
  exact hF B ρ w vs hb hm hg (by rw [hl, h1]) (fun i y hy => by
    obtain ⟨x, hx, hxy⟩ := h2 i y hy
    obtain ⟨v, hv, hr⟩ := ha i x hx
    exact ⟨v, hv, hr.sub hxy⟩)

/-- A body-less function of the library, by what it reckons. -/
def ExtR (P : Program) (f : FuncId) (args : List AV) (r : AV) : Prop :=
  ∀ w, ∃ x, (callFunc f ((args.map fun a => shape a (conc a)).toArray)).run P w = .ok (.value x) w ∧ ∀ ρ S N, RV ρ S w N r x

/-- A call, by a contract. -/
inductive CallK (P : Program) (G : Nat → Option AV) (e : Ents) (nb : Nat) (f : FuncId) (as cap : List AV) (K : AV → Del → Prop) : Prop
  | fn (h h' : Ents) (args args' : List AV) (F : Bool) (r : AV) (hv : Ok (vw.vwL e h (as ++ cap)) (args, F)) (hs : AV.subL args args') (hF : FnR P G f args' h r h') (hc : Callable P f) (ht : isTupL (as ++ cap) = false) (hle : Le h e)
      (hn : ∀ n, Nm h' n → Nm h n ∨ (nb ≤ n ∧ n < nb + 16)) (hi : entsIn (Nm h) h) (hf : F = true → r.free = true ∧ entsFree h' = true) (hk : K r (callDel h h'))
  | ext (r : AV) (hc : cap = []) (hp : as.all plain = true) (hF : ExtR P f as r) (hk : K r [])

def exCall (P : Program) (tt : Nat → Option TI) (G : Nat → Option AV) (t : Tms) (e : Ents) (nb : Nat) (c : Call) (K : AV → Del → Prop) : Prop :=
  match c.callee with
  | .value x =>
    match ev G t x, evL G t c.args.toList with
    | some (.fn (.func f) cap), some as => CallK P G e nb f as cap K
    | _, _ => False
  | .builtin b =>
    match evL G t c.args.toList with
    | some as => onQ (bltQ tt e nb b c.argTypes.toList as) (fun r => K r.1 r.2) ∨ onQ (bltV tt e b c.argTypes.toList as) (fun v => K v [])
    | none => False
  | _ => False

def exOp (P : Program) (tt : Nat → Option TI) (G : Nat → Option AV) (t : Tms) (e : Ents) (nb : Nat) (o : Op) (K : AV → Del → Prop) : Prop :=
  match o with
  | .call c => exCall P tt G t e nb c K
  | o => onQ (stepQ tt G t e nb o) fun r => K r.1 r.2

section
variable {P : Program} {tt : Nat → Option TI} {G : Nat → Option AV} {t : Tms} {e : Ents} {nb : Nat} {dst : Option Tmp} {ty : TypeId} {pos : String} {after : Array Edge} {gd : Option (Nat × Bool)}

mutual
theorem RC.plain_eq {ρ : Nat → Nat} {S : Nat → Prop} {w : World} {N : Nat → Prop} : ∀ (a : AV) (cs : List Value), RC ρ S w N a cs → plain a = true → cs = Sx.conc a
  | .int _ _, _, h, _ => by cases h; simp [Sx.conc]
  | .bool _, _, h, _ => by cases h; simp [Sx.conc]
  | .str _, _, h, _ => by cases h; simp [Sx.conc]
  | .ints _ _ _, _, h, _ => by cases h; simp [Sx.conc]
  | .nils, _, h, _ => by cases h; simp [Sx.conc]
  | .nilp, _, h, _ => by cases h; simp [Sx.conc]
  | .nilf, _, h, _ => by cases h; simp [Sx.conc]
  | .nili, _, h, _ => by cases h; simp [Sx.conc]
  | .nilm, _, h, _ => by cases h; simp [Sx.conc]
  | .agg cs, _, h, hp => by rw [Sx.conc]; exact RC.plainL_eq cs _ h (by rw [plain] at hp; exact hp)
  | .tup _, _, _, h | .ptr _ _ _ _, _, _, h | .pel _, _, _, h | .sl _ _ _ _, _, _, h | .lstI _ _, _, _, h | .lstS _, _, _, h | .lst _ _, _, _, h | .fn _ _, _, _, h | .ifc _ _, _, _, h | .mp _, _, _, h => by simp [plain] at h
theorem RC.plainL_eq {ρ : Nat → Nat} {S : Nat → Prop} {w : World} {N : Nat → Prop} : ∀ (l : List AV) (cs : List Value), RC ρ S w N (.agg l) cs → plain.plainL l = true → cs = Sx.conc.concL l
  | [], _, h, _ => by cases h; simp [Sx.conc.concL]
  | a :: l, _, h, hp => by
    rw [plain.plainL, Bool.and_eq_true] at hp
    cases h with
    | cons h1 h2 => rw [Sx.conc.concL, RC.plain_eq a _ h1 hp.1, RC.plainL_eq l _ h2 hp.2]
end
theorem plain_val {ρ : Nat → Nat} {S : Nat → Prop} {w : World} {N : Nat → Prop} {a : AV} {v : Value} (hp : plain a = true) (h : RV ρ S w N a v) : v = shape a (conc a) := by
  cases h with
  | one h =>
    rename_i cs
    rw [RC.plain_eq a cs h hp]
  | tup => simp [plain] at hp

theorem sound_ext {x : Operand} {xs : Array Operand} {ts : Array TypeId} {f : FuncId} {as : List AV} {r : AV} (hx : ev G t x = some (.fn (.func f) [])) (has : evL G t xs.toList = some as) (hp : as.all plain = true) (hF : ExtR P f as r) :
    OpSound P G t e nb ⟨dst, .call { callee := .value x, args := xs, argTypes := ts }, ty, pos, after, gd⟩ r [] := by
  intro B ρ D t' e' a w htt hee hg hD
  have ht : isTupL as = false := by
    clear has hF
    induction as with
    | nil => rfl
    | cons y as ih =>
      simp only [List.all_cons, Bool.and_eq_true] at hp
      simp only [isTupL, Bool.or_eq_false_iff]
      exact ⟨by cases y <;> first | rfl | (simp [plain] at hp), ih hp.2⟩
  obtain ⟨cs1, hl1, hv1, hr1⟩ := evL_sound hg htt has ht
  obtain ⟨cf, hcf, hrf⟩ := (ev_sound hg htt hx).inv (by simp)
  cases hrf with
  | fn us hus =>
    have hcf' : a.eval x = Value.func (.func f) #[] #[] := hcf
    have hz : (as.zip cs1).map (fun p => shape p.1 p.2) = as.map fun a => shape a (conc a) := by
      apply List.ext_getElem?
      intro i
      simp only [List.getElem?_map]
      cases hi : as[i]? with
      | none =>
        rw [List.getElem?_eq_none (by simp; have := List.getElem?_eq_none_iff.1 hi; omega)]
        rfl
      | some y =>
        obtain ⟨c, h1, h2⟩ := hr1 i y hi
        rw [zip_get hi h1]
        have : plain y = true := List.all_eq_true.1 hp y (List.mem_of_getElem? hi)
        simp only [Option.map_some]
        rw [RC.plain_eq y c h2 this]
    obtain ⟨u, h1, h2⟩ := hF w
    have e1 : xs.map a.eval = (as.map fun a => shape a (conc a)).toArray := by rw [← hz, ← hv1, ← List.map_toArray, Array.toArray_toList]
    refine .value (x := u) (w' := w) ?_ (Post.pure hg.mem (h2 _ _ _))
    simp only [execOp, resolve, hcf', Deferred.ofValue, Sem.run_bind, Sem.run_pure, Result.andThen_ok, invoke, e1]
    simpa using h1

theorem exOp_sound (hTT : TT P tt) {o : Op} {K : AV → Del → Prop} (h : exOp P tt G t e nb o K) : ∃ v d, K v d ∧ OpSound P G t e nb ⟨dst, o, ty, pos, after, gd⟩ v d := by
  by_cases hc : ∃ c, o = .call c
  · obtain ⟨c, rfl⟩ := hc
    simp only [exOp, exCall] at h
    obtain ⟨cal, xs, ts⟩ := c
    cases cal with
    | value x =>
      simp only at h
      split at h
      · next f cap as hx has =>
        cases h with
        | fn h h' args args' F r hv hs hF hcal ht hle hn hi hf hk => exact ⟨r, _, hk, sound_call hx has ht (hF.sub hs) hle hcal hv hn hi hf⟩
        | ext r hc hp hF hk => subst hc; exact ⟨r, _, hk, sound_ext hx has hp hF⟩
      · exact h.elim
    | invoke => exact h.elim
    | builtin b =>
      simp only at h
      split at h
      · next as has =>
        rcases h with h | h
        · obtain ⟨⟨v, d⟩, h1, h2⟩ := onQ_spec h; exact ⟨v, d, h2, sound_blt hTT has h1⟩
        · obtain ⟨v, h1, h2⟩ := onQ_spec h; exact ⟨v, [], h2, sound_bltV hTT has h1⟩
      · exact h.elim
  · have : exOp P tt G t e nb o K = onQ (stepQ tt G t e nb o) fun r => K r.1 r.2 := by
      cases o <;> first | rfl | exact absurd ⟨_, rfl⟩ hc
    rw [this] at h
    obtain ⟨⟨v, d⟩, h1, h2⟩ := onQ_spec h
    exact ⟨v, d, h2, stepQ_sound hTT h1⟩

/-- Operations in the order of the text. -/
def exOps (P : Program) (tt : Nat → Option TI) (G : Nat → Option AV) (all : List Oper) : List Oper → St → (St → Prop) → Prop
  | [], st, K => K st
  | o :: rest, st, K =>
    match o.guard with
    | none => inB o.dst st.m ∧ exOp P tt G st.t st.e st.n o.op fun v d => exOps P tt G all rest ⟨putT st.t o.dst v, ap d st.e, st.n + 16, st.m⟩ K
    | some (j, want) =>
      match ((all[j]?).bind (·.dst)).bind (lk st.t) with
      | some (.bool b) => inB o.dst st.m ∧ (b = want → exOp P tt G st.t st.e st.n o.op fun v d => exOps P tt G all rest ⟨putT st.t o.dst v, ap d st.e, st.n + 16, st.m⟩ K) ∧
          (b ≠ want → exOps P tt G all rest ⟨putT st.t o.dst (.tup []), st.e, st.n + 16, st.m⟩ K)
      | _ => False

theorem exOps_sound (hTT : TT P tt) {h : Ents} {C : Ctx} {all : List Oper} {K : St → Prop} {Q : Exit → Act → World → Prop} (hQ : ∀ st a w, K st → At G h C st a w → Q .normal a w) :
    ∀ (ops : List Oper) (st : St) (a : Act) (w : World), At G h C st a w → exOps P tt G all ops st K → wpList P all.toArray Q ops a w
  | [], st, a, w, ha, hk => wpList_nil (hQ st a w hk ha)
  | o :: rest, st, a, w, ha, hk => by
    obtain ⟨dst, op, ty, pos, after, gd⟩ := o
    simp only [exOps] at hk
    refine wpList_step (fun K' hK' => ?_)
    have run : ∀ (hm : inB dst st.m) (h : exOp P tt G st.t st.e st.n op fun v d => exOps P tt G all rest ⟨putT st.t dst v, ap d st.e, st.n + 16, st.m⟩ K), Oper.wp P ⟨dst, op, ty, pos, after, gd⟩ a w K' Q := by
      intro hm hop
      obtain ⟨v, d, h1, h2⟩ := exOp_sound (dst := dst) (ty := ty) (pos := pos) (after := after) (gd := gd) hTT hop
      obtain ⟨ρ, D, hg, hd, hD, hev⟩ := ha
      refine (h2 C.B ρ D st.t st.e a w (fun _ _ h => h) (fun _ _ h => h) hg (fun n h1 h2 hn => by have := hD n hn; omega)).wp (fun x w' hp => hK' _ _ ?_)
      exact exOps_sound hTT hQ rest _ _ _ (At.step hg hd hD hev hm hp) h1
    cases gd with
    | none => simp only [Region.wanted, if_true]; exact run hk.1 hk.2
    | some g =>
      obtain ⟨j, want⟩ := g
      simp only at hk
      split at hk
      · next b hb =>
        obtain ⟨hm, h1, h2⟩ := hk
        have hy : yielded all.toArray a.tmps j = some b := by
          obtain ⟨ρ, D, hg, _⟩ := id ha
          rw [Option.bind_eq_some_iff] at hb
          obtain ⟨dj, hd1, hd2⟩ := hb
          obtain ⟨v, hv1, hv2⟩ := hg.tm _ _ hd2
          rw [hv2.bool_inv] at hv1
          unfold yielded
          have : (all.toArray[j]?).bind (·.dst) = some dj := by simpa using hd1
          rw [this, Option.bind_some, hv1]
        simp only [Region.wanted, hy]
        by_cases hq : b = want
        · rw [if_pos (by simp [hq])]; exact run hm (h1 hq)
        · rw [if_neg (by simp [hq])]
          refine hK' _ _ (exOps_sound hTT hQ rest _ _ _ ?_ (h2 hq))
          obtain ⟨ρ, D, hg, hd, hD, hev⟩ := ha
          exact At.step (d := []) hg hd hD hev hm (Post.pure hg.mem .unit)
      · exact hk.elim

theorem W.region (hTT : TT P tt) {h : Ents} {id : Nat} {ops : List Oper} {st : St} {Q : Exit → St → Prop} (hk : exOps P tt G ops ops st (Q .normal)) : W P G h (.region id ops.toArray false) st Q := by
  intro C a w ha
  exact wp_region_lit (exOps_sound hTT (fun s a w h1 h2 => ⟨s, h1, h2⟩) ops st a w ha hk)

/-! ### Functions -/

def resQ (tt : Nat → Option TI) (e : Ents) (t : Tms) : List ResultVar → Q (List AV)
  | [] => ret []
  | .tmp i :: l => opt (lk t i) fun v => req (v.isTup = false) (bnd (resQ tt e t l) fun r => ret (v :: r))
  | .cell i T :: l => opt (tt T) fun ti => opt (lk t i) fun p => bnd (ldP e ti p) fun v => req (v.isTup = false) (bnd (resQ tt e t l) fun r => ret (v :: r))
def resV : List AV → AV
  | [v] => v
  | l => .tup l

theorem resQ_run (hTT : TT P tt) {B : Nat → Prop} {ρ : Nat → Nat} {D : Nat → Prop} {a : Act} {w : World} (hg : Good B G ρ D t e a w) : ∀ (l : List ResultVar) (vs : List AV), Ok (resQ tt e t l) vs →
    ∃ us : List Value, (l.mapM fun | .tmp t => pure (a.tmps.getD t undef) | .cell p t => do loadVar t (← asAddr (a.tmps.getD p undef)) : Sem (List Value)).run P w = .ok us w ∧ us.length = vs.length ∧
      ∀ (i : Nat) x, vs[i]? = some x → x.isTup = false ∧ ∃ cs, RC ρ (Stab B ρ e w) w D x cs ∧ us[i]? = some (shape x cs)
  | [], vs, h => by cases h.ret; exact ⟨[], by simp, rfl, fun i x hi => by simp at hi⟩
  | .tmp i :: l, vs, h => by
    simp only [resQ] at h
    obtain ⟨v, h1, h⟩ := h.opt
    obtain ⟨h2, h⟩ := h.req
    obtain ⟨r, h3, h⟩ := h.bnd
    cases h.ret
    obtain ⟨us, k1, k2, k3⟩ := resQ_run hTT hg l r h3
    obtain ⟨u, g1, g2⟩ := hg.tm i v h1
    obtain ⟨cs, g3, g4⟩ := g2.inv (notTup h2)
    refine ⟨u :: us, ?_, by simp [k2], fun j x hj => ?_⟩
    · simp only [List.mapM_cons, Sem.run_bind, Sem.run_pure, Result.andThen_ok, k1]
      simp [g1]
    · cases j with
      | zero => simp at hj; subst hj; exact ⟨h2, cs, g4, by simp [g3]⟩
      | succ j => simpa using k3 j x (by simpa using hj)
  | .cell i T :: l, vs, h => by
    simp only [resQ] at h
    obtain ⟨ti, h0, h⟩ := h.opt
    obtain ⟨p, h1, h⟩ := h.opt
    obtain ⟨v, h4, h⟩ := h.bnd
    obtain ⟨h2, h⟩ := h.req
    obtain ⟨r, h3, h⟩ := h.bnd
    cases h.ret
    obtain ⟨us, k1, k2, k3⟩ := resQ_run hTT hg l r h3
    obtain ⟨u, g1, g2⟩ := hg.tm i p h1
    obtain ⟨b, o, y, q1, q2, q3⟩ := ldP_run (P := P) hg (fun _ _ h => h) (hTT _ _ h0) g2 h4
    obtain ⟨cs, g3, g4⟩ := q2.inv (notTup h2)
    refine ⟨y :: us, ?_, by simp [k2], fun j x hj => ?_⟩
    · have : a.tmps.getD i undef = .pointer (some ⟨b, o, none⟩) := by simp [g1, q1]
      have hA : (asAddr (.pointer (some ⟨b, o, none⟩))).run P w = .ok ⟨b, o, none⟩ w := by simp [asAddr]
      simp only [List.mapM_cons, Sem.run_bind, Sem.run_pure, Result.andThen_ok, k1, this, hA, q3]
    · cases j with
      | zero => simp at hj; subst hj; exact ⟨h2, cs, g4, by simp [g3]⟩
      | succ j => simpa using k3 j x (by simpa using hj)

theorem results_run (hTT : TT P tt) {B : Nat → Prop} {ρ : Nat → Nat} {D : Nat → Prop} {a : Act} {w : World} (hg : Good B G ρ D t e a w) {fn : Func} {vs : List AV} (h : Ok (resQ tt e t fn.results.toList) vs) :
    ∃ u, (results fn a.tmps).run P w = .ok u w ∧ RV ρ (Stab B ρ e w) w D (resV vs) u := by
  obtain ⟨us, h1, h2, h3⟩ := resQ_run hTT hg _ _ h
  refine ⟨if h : us.toArray.size = 1 then us.toArray[0] else .tuple us.toArray, ?_, ?_⟩
  · simp only [results, Sem.run_bind]
    rw [Array.mapM_eq_mapM_toList]
    simp only [Sem.run_map, Sem.run_pure]
    exact congrArg (fun r : Result (List Value) => (r.andThen fun a w' => Result.ok a.toArray w').andThen fun (a : Array Value) w' => Result.ok (if h : a.size = 1 then a[0] else Value.tuple a) w') h1
  · match vs, us, h2, h3 with
    | [v], [u], _, h3 =>
      obtain ⟨_, cs, k1, k2⟩ := h3 0 v rfl
      simp at k2
      simp only [resV, List.size_toArray, List.length_singleton, dite_true]
      show RV _ _ _ _ v u
      rw [k2]; exact .one k1
    | [], [], _, _ => exact .unit
    | v1 :: v2 :: vs, u1 :: u2 :: us, h2, h3 =>
      rw [dif_neg (by simp)]
      exact .tup h2 (fun i x hi => let ⟨_, cs, k1, k2⟩ := h3 i x hi; ⟨cs, k1, k2⟩)
end

/-- The parameters, in the first slots. -/
def parT : Nat → List AV → Tms
  | _, [] => []
  | i, a :: l => (i, a) :: parT (i + 1) l
theorem lk_parT : ∀ (l : List AV) (i j : Nat) (x : AV), lk (parT i l) j = some x → i ≤ j ∧ l[j - i]? = some x
  | [], i, j, x, h => by cases h
  | a :: l, i, j, x, h => by
    simp only [parT, lk] at h
    split at h
    · next hq => subst hq; cases h; simp
    · next hq =>
      obtain ⟨h1, h2⟩ := lk_parT l (i + 1) j x h
      refine ⟨by omega, ?_⟩
      rw [show j - i = (j - (i + 1)) + 1 from by omega]
      simpa using h2

/-- A function's contract, by its body. -/
theorem FnR.of_body {P : Program} {tt : Nat → Option TI} {G : Nat → Option AV} (hTT : TT P tt) {f : FuncId} {fn : Func} {c : Code} {args : List AV} {h h' : Ents} {r : AV} {n0 m : Nat} (hf : P.funcs[f]? = some fn) (hb : fn.body = some c)
    (hm : fn.ntmps = m) (hargs : args.length ≤ m) (hn0 : ∀ n, Nm h n → n < n0)
    (hW : W P G h c ⟨parT 0 args, h, n0, m⟩ fun x st => (x = .normal ∨ x = .ret) ∧ ∃ vs, Ok (resQ tt st.e st.t fn.results.toList) vs ∧ resV vs = r ∧ Le h' st.e ∧ r.nmIn (Nm h') ∧ entsIn (Nm h') h') :
    FnR P G f args h r h' := by
  intro B ρ w vs hbig hmem hgl hlen ha
  subst hm
  refine calls_of_wp hf hb (wp_mono (hW ⟨B, ρ, w⟩ _ w ?_) ?_)
  · refine ⟨ρ, Nm h, ⟨hmem, fun i x hi => ?_, hbig, hgl⟩, ⟨rfl, ?_⟩, hn0, Evol.refl w⟩
    · obtain ⟨_, h2⟩ := lk_parT args 0 i x hi
      obtain ⟨v, h3, h4⟩ := ha i x (by simpa using h2)
      have hlt := (List.getElem?_eq_some_iff.1 h3).1
      exact ⟨v, by simp only [Array.getElem?_append, List.size_toArray]; rw [if_pos hlt]; simpa using h3, h4⟩
    · simp; omega
  · rintro x a' w' ⟨st, ⟨hx, us, h1, h2, h3, h4, h5⟩, hat⟩
    obtain ⟨ρ', D', hg, hd, hD, hev⟩ := hat
    obtain ⟨u, h6, h7⟩ := results_run (P := P) hTT hg h1
    rw [h2] at h7
    have hS : ∀ b, Stab B ρ' st.e w' b → Stab B ρ' h' w' b := fun b hb => ⟨hb.1, hb.2.1, fun m x hm => hb.2.2 m x (h3 _ _ hm)⟩
    have hself : Evo (Stab B ρ' st.e w') (Stab B ρ' h' w') w' w' := ⟨fun b hb => ⟨hS b hb, rfl⟩, fun b n hb => hb⟩
    have fin : ∃ x ρ', Ending.returned u = .returned x ∧ RV ρ' (Stab B ρ' h' w') w' (Nm h') r x ∧ Mem B ρ' (Nm h') h' w' ∧ Kept B ρ h w ρ' h' w' := by
      refine ⟨u, ρ', rfl, (h7.restrict h4).mono hself (fun n hn => ⟨hn, rfl⟩), ⟨fun m x hm => ⟨by simp [Nm, hm], ?_⟩, fun m m' x x' hm hm' hq => hg.mem.inj m m' x x' (h3 _ _ hm) (h3 _ _ hm') hq⟩,
        ⟨fun b hb => ⟨hS b (hev.evo.stable b hb).1, (hev.evo.stable b hb).2⟩, hev.evo.sized⟩, fun n h1 _ => (hev.agree n h1).2, fun m x hm => hev.fresh m x (h3 _ _ hm), hev.size, hev.os, hev.out, hev.tape, hev.others⟩
      exact ((hg.mem.en m x (h3 _ _ hm)).2.restrict (entsIn_get h5 m x hm)).mono hself (fun n hn => ⟨hn, rfl⟩) rfl
    rcases hx with rfl | rfl
    · exact ⟨hd.1, u, h6, fin⟩
    · exact ⟨hd.1, u, h6, fin⟩

end Sx
