/- Two names exchanged. -/
import Derived.Test.YtakgcmponelbeaaDoorSxW
set_option linter.unusedVariables false
set_option linter.unusedSimpArgs false
namespace Sx
open Go

def swp (a b n : Nat) : Nat := if n = a then b else if n = b then a else n
theorem swp_swp (a b n : Nat) : swp a b (swp a b n) = n := by
  unfold swp; repeat' split
  all_goals omega
def Row.map (τ : Nat → Nat) : Row → Row
  | .ints k xs => .ints k xs
  | .strs ss => .strs ss
  | .avs sz l => .avs sz (AV.mapL τ l)
def Ent.map (τ : Nat → Nat) : Ent → Ent
  | .obj T v => .obj T (v.map τ)
  | .vec T r => .vec T (r.map τ)
def tmMap (τ : Nat → Nat) : Tms → Tms
  | [] => []
  | (i, x) :: l => (i, x.map τ) :: tmMap τ l
def enMap (τ : Nat → Nat) : Ents → Ents
  | [] => []
  | (m, x) :: l => (τ m, x.map τ) :: enMap τ l
theorem lk_tmMap (τ : Nat → Nat) : ∀ (t : Tms) (i : Nat), lk (tmMap τ t) i = (lk t i).map (AV.map τ)
  | [], _ => rfl
  | (k, x) :: l, i => by simp only [tmMap, lk]; split <;> simp [lk_tmMap τ l i]
theorem lk_enMap (a b : Nat) : ∀ (e : Ents) (m : Nat), lk (enMap (swp a b) e) m = (lk e (swp a b m)).map (Ent.map (swp a b))
  | [], _ => rfl
  | (k, x) :: l, m => by
    simp only [enMap, lk]
    by_cases h : swp a b k = m
    · have : k = swp a b m := by rw [← h, swp_swp]
      rw [if_pos h, if_pos this]; rfl
    · have : ¬ k = swp a b m := fun q => h (by rw [q, swp_swp])
      rw [if_neg h, if_neg this, lk_enMap a b l m]

section
variable {ρ : Nat → Nat} {S : Nat → Prop} {w : World} {N : Nat → Prop} {a b : Nat}
theorem RC.swap {x : AV} {cs : List Value} (h : RC ρ S w N x cs) : RC (fun n => ρ (swp a b n)) S w (fun n => N (swp a b n)) (x.map (swp a b)) cs := by
  have h' : RC (fun n => (fun n => ρ (swp a b n)) (swp a b n)) S w N x cs := by
    have : (fun n => (fun n => ρ (swp a b n)) (swp a b n)) = ρ := by funext n; simp only [swp_swp]
    rw [this]; exact h
  exact RC.map (ρ := fun n => ρ (swp a b n)) (τ := swp a b) h' (fun n => N (swp a b n)) (fun n hn => by show N (swp a b (swp a b n)); rw [swp_swp]; exact hn)
theorem AV.map_isAgg (τ : Nat → Nat) (x : AV) : (x.map τ).isAgg = x.isAgg := by cases x <;> simp [AV.map, AV.isAgg]
theorem RV.swap {x : AV} {v : Value} (h : RV ρ S w N x v) : RV (fun n => ρ (swp a b n)) S w (fun n => N (swp a b n)) (x.map (swp a b)) v := by
  cases h with
  | one h =>
    rename_i cs
    have : shape x cs = shape (x.map (swp a b)) cs := by simp only [shape, AV.map_isAgg]
    rw [this]; exact .one h.swap
  | tup hl h =>
    rename_i l vs
    simp only [AV.map]
    rw [AV.mapL_eq]
    refine .tup (by simp [hl]) (fun i y hi => ?_)
    rw [List.getElem?_map, Option.map_eq_some_iff] at hi
    obtain ⟨z, hz, rfl⟩ := hi
    obtain ⟨cs, h1, h2⟩ := h i z hz
    exact ⟨cs, h1.swap, by simp only [shape, AV.map_isAgg] at h2 ⊢; exact h2⟩
theorem RowC.swap {r : Row} {cs : List Value} (h : RowC ρ S w N r cs) : RowC (fun n => ρ (swp a b n)) S w (fun n => N (swp a b n)) (r.map (swp a b)) cs := by
  induction h with
  | ints => exact .ints
  | strs => exact .strs
  | nil => simp only [Row.map, AV.mapL]; exact .nil
  | cons h1 hz _ ih => simp only [Row.map, AV.mapL] at *; exact .cons h1.swap hz ih
theorem EntR.swap {c : Nat} {x : Ent} (h : EntR ρ S w N c x) : EntR (fun n => ρ (swp a b n)) S w (fun n => N (swp a b n)) c (x.map (swp a b)) := by
  cases h with
  | obj h hb => exact .obj h.swap hb
  | vec h hb hc => exact .vec h.swap hb hc
end

def St.swap (a b : Nat) (st : St) : St := ⟨tmMap (swp a b) st.t, enMap (swp a b) st.e, st.n, st.m⟩
theorem Stab.swap {B : Nat → Prop} {ρ : Nat → Nat} {e : Ents} {w : World} {a b : Nat} : Stab B (fun n => ρ (swp a b n)) (enMap (swp a b) e) w = Stab B ρ e w := by
  funext c
  apply propext
  constructor
  · rintro ⟨h1, h2, h3⟩
    exact ⟨h1, h2, fun m x hm => by
      have := h3 (swp a b m) (x.map (swp a b)) (by rw [lk_enMap, swp_swp, hm]; rfl)
      simpa only [swp_swp] using this⟩
  · rintro ⟨h1, h2, h3⟩
    refine ⟨h1, h2, fun m x hm => ?_⟩
    rw [lk_enMap, Option.map_eq_some_iff] at hm
    obtain ⟨y, hy, _⟩ := hm
    exact h3 _ y hy
theorem At.swap {G : Nat → Option AV} {h : Ents} {C : Ctx} {st : St} {act : Act} {w : World} {a b : Nat} (hna : ¬ Nm h a) (hnb : ¬ Nm h b) (ha : a < st.n) (hb : b < st.n) (hat : At G h C st act w) : At G h C (st.swap a b) act w := by
  obtain ⟨ρ, D, hg, hd, hD, hev⟩ := hat
  have hS : Stab C.B (fun n => ρ (swp a b n)) (enMap (swp a b) st.e) w = Stab C.B ρ st.e w := Stab.swap
  refine ⟨fun n => ρ (swp a b n), fun n => D (swp a b n), ⟨⟨fun m x hm => ?_, fun m m' x x' hm hm' hq => ?_⟩, fun i x hi => ?_, hg.big, fun g x hx => ?_⟩, hd, fun n hn => ?_, ⟨?_, fun n hn => ?_, fun m x hm => ?_, hev.size, hev.os, hev.out, hev.tape, hev.others⟩⟩
  · simp only [St.swap] at hm ⊢
    rw [hS]
    rw [lk_enMap, Option.map_eq_some_iff] at hm
    obtain ⟨y, hy, rfl⟩ := hm
    exact ⟨(hg.mem.en _ y hy).1, (hg.mem.en _ y hy).2.swap⟩
  · simp only [St.swap] at hm hm'
    rw [lk_enMap, Option.map_eq_some_iff] at hm hm'
    obtain ⟨y, hy, rfl⟩ := hm
    obtain ⟨y', hy', rfl⟩ := hm'
    have := hg.mem.inj _ _ _ _ hy hy' hq
    have := congrArg (swp a b) this
    simpa only [swp_swp] using this
  · simp only [St.swap] at hi ⊢
    rw [hS]
    rw [lk_tmMap, Option.map_eq_some_iff] at hi
    obtain ⟨y, hy, rfl⟩ := hi
    obtain ⟨v, h1, h2⟩ := hg.tm i y hy
    exact ⟨v, h1, h2.swap⟩
  · simp only [St.swap]
    rw [hS]
    exact (hg.gl g x hx).mono (Evo.refl w) NoNm (fun _ h => h.elim)
  · have := hD _ hn
    show n < st.n
    unfold swp at this
    split at this
    · omega
    · split at this
      · omega
      · exact this
  · simp only [St.swap]
    rw [hS]; exact hev.evo
  · have : swp a b n = n := by
      unfold swp
      rw [if_neg (fun q : n = a => hna (by rw [← q]; exact hn)), if_neg (fun q : n = b => hnb (by rw [← q]; exact hn))]
    show D (swp a b n) ∧ ρ (swp a b n) = _
    rw [this]; exact hev.agree n hn
  · simp only [St.swap] at hm
    rw [lk_enMap, Option.map_eq_some_iff] at hm
    obtain ⟨y, hy, rfl⟩ := hm
    exact hev.fresh _ y hy
theorem W.swap {P : Program} {G : Nat → Option AV} {h : Ents} {c : Code} {st : St} {Q : Exit → St → Prop} (a b : Nat) (hn : (¬ Nm h a ∧ ¬ Nm h b) ∧ a < st.n ∧ b < st.n) (hw : W P G h c (st.swap a b) Q) : W P G h c st Q :=
  fun C act w hat => hw C act w (hat.swap hn.1.1 hn.1.2 hn.2.1 hn.2.2)
/-- A loop whose rounds may exchange two names. -/
theorem W.loopS {P : Program} {G : Nat → Option AV} {h : Ents} {ι : Type} {c : Code} {st : St} {Q : Exit → St → Prop} (p : ι → Prop) (I : ι → St) (μ : ι → Nat) (i0 : ι) (hp : p i0) (h0 : wk h st (I i0))
    (round : ∀ i, p i → ∀ K : St → Prop, (∀ s j a b, p j → μ j < μ i → (¬ Nm h a ∧ ¬ Nm h b) ∧ a < s.n ∧ b < s.n → wk h (s.swap a b) (I j) → K s) → W P G h c (I i) (thn K Q)) : W P G h (.loop c) st Q := by
  intro C act w ha
  refine wp_loop_ghost (fun n a w => ∃ i, p i ∧ μ i = n ∧ At G h C (I i) a w) (μ i0) ⟨i0, hp, rfl, ha.weaken (Wk.of h0)⟩ ?_
  rintro n a' w' ⟨i, hpi, rfl, hi⟩
  refine wp_mono (round i hpi (fun s => ∃ j a b, p j ∧ μ j < μ i ∧ ((¬ Nm h a ∧ ¬ Nm h b) ∧ a < s.n ∧ b < s.n) ∧ wk h (s.swap a b) (I j)) (fun s j a b h1 h2 h3 h4 => ⟨j, a, b, h1, h2, h3, h4⟩) C a' w' hi) ?_
  rintro z a'' w'' ⟨s, h1, h2⟩
  cases z with
  | normal =>
    obtain ⟨j, a, b, k1, k2, k3, k4⟩ := h1
    exact ⟨μ j, k2, j, k1, rfl, (h2.swap k3.1.1 k3.1.2 k3.2.1 k3.2.2).weaken (Wk.of k4)⟩
  | _ => exact ⟨s, h1, h2⟩
/-- Guards that are decided: what is not taken is not looked at. -/
theorem gTT (q : Prop) : (true = true → q) = q := by simp
theorem gFF (q : Prop) : (false = false → q) = q := by simp
theorem gTF (q : Prop) : (true = false → q) = True := by simp
theorem gFT (q : Prop) : (false = true → q) = True := by simp
theorem nTT (q : Prop) : (true ≠ true → q) = True := by simp
theorem nFF (q : Prop) : (false ≠ false → q) = True := by simp
theorem nTF (q : Prop) : (true ≠ false → q) = q := by simp
theorem nFT (q : Prop) : (false ≠ true → q) = q := by simp
/-- What follows waits till its turn comes. -/
def nx (F : St → (St → Prop) → Prop) (st : St) (dst : Option Tmp) (K : St → Prop) (v : AV) (d : Del) : Prop := F ⟨putT st.t dst v, ap d st.e, st.n + 16, st.m⟩ K
def nxD (F : Tms → Ents → Nat → (St → Prop) → Prop) (k : Nat) (t : Tms) (e : Ents) (n : Nat) (dst : Option Tmp) (K : St → Prop) (v : AV) (d : Del) : Prop := ownB k n d ∧ F (putT t dst v) (ap d e) (n + 16) K
def cur (K : AV → Del → Prop) (r : AV × Del) : Prop := K r.1 r.2
def curV (K : AV → Del → Prop) (v : AV) : Prop := K v []
section
variable {P : Program} {tt : Nat → Option TI} {G : Nat → Option AV}
theorem nx_eq {F : St → (St → Prop) → Prop} {st : St} {dst : Option Tmp} {K : St → Prop} {v : AV} {d : Del} : nx F st dst K v d = F ⟨putT st.t dst v, ap d st.e, st.n + 16, st.m⟩ K := propext ⟨fun h => h, fun h => h⟩
theorem nxD_eq {F : Tms → Ents → Nat → (St → Prop) → Prop} {k : Nat} {t : Tms} {e : Ents} {n : Nat} {dst : Option Tmp} {K : St → Prop} {v : AV} {d : Del} : nxD F k t e n dst K v d = (ownB k n d ∧ F (putT t dst v) (ap d e) (n + 16) K) := propext ⟨fun h => h, fun h => h⟩
theorem cur_eq {K : AV → Del → Prop} {v : AV} {d : Del} : cur K (v, d) = K v d := propext ⟨fun h => h, fun h => h⟩
theorem curV_eq {K : AV → Del → Prop} {v : AV} : curV K v = K v [] := propext ⟨fun h => h, fun h => h⟩
theorem exCall_eq {t : Tms} {e : Ents} {nb : Nat} {c : Call} {K : AV → Del → Prop} : exCall P tt G t e nb c K = (match c.callee with
  | .value x =>
    match ev G t x, evL G t c.args.toList with
    | some (.fn (.func f) cap), some as => CallK P G e nb f as cap K
    | _, _ => False
  | .builtin b =>
    match evL G t c.args.toList with
    | some as => onQ (bltQ tt e nb b c.argTypes.toList as) (cur K) ∨ onQ (bltV tt e b c.argTypes.toList as) (curV K)
    | none => False
  | _ => False) := by
  obtain ⟨cal, xs, ts⟩ := c
  cases cal <;> rfl
theorem exOp_eq {t : Tms} {e : Ents} {nb : Nat} {o : Op} {K : AV → Del → Prop} : exOp P tt G t e nb o K = (match o with
  | .call c => exCall P tt G t e nb c K
  | o => onQ (stepQ tt G t e nb o) (cur K)) := by
  unfold exOp
  cases o <;> rfl
theorem exOps_nil {all : List Oper} {st : St} {K : St → Prop} : exOps P tt G all [] st K = K st := propext ⟨fun h => h, fun h => h⟩
theorem exOps_cons {all rest : List Oper} {o : Oper} {st : St} {K : St → Prop} : exOps P tt G all (o :: rest) st K = (match o.guard with
    | none => inB o.dst st.m ∧ exOp P tt G st.t st.e st.n o.op (nx (exOps P tt G all rest) st o.dst K)
    | some (j, want) =>
      match ((all[j]?).bind (·.dst)).bind (lk st.t) with
      | some (.bool b) => inB o.dst st.m ∧ (b = want → exOp P tt G st.t st.e st.n o.op (nx (exOps P tt G all rest) st o.dst K)) ∧
          (b ≠ want → exOps P tt G all rest ⟨putT st.t o.dst (.tup []), st.e, st.n + 16, st.m⟩ K)
      | _ => False) := by
  obtain ⟨dst, op, ty, pos, after, gd⟩ := o
  cases gd <;> rfl
theorem exD_nil {all : List Oper} {n0 m : Nat} {A : Infs} {t : Tms} {e : Ents} {n : Nat} {K : St → Prop} : exD P tt G all n0 m [] A t e n K = K ⟨t, e, n, m⟩ := by rw [exD.eq_def]
theorem exD_cons {all rest : List Oper} {o : Oper} {n0 m : Nat} {q : Inf} {A : Infs} {t : Tms} {e : Ents} {n : Nat} {K : St → Prop} : exD P tt G all n0 m (o :: rest) (q :: A) t e n K = (inB o.dst m ∧
    match o.guard with
    | none => exOp P tt G t (flI q n0 e) n o.op (nxD (exD P tt G all n0 m rest A) q.k t e n o.dst K)
    | some (j, want) =>
      match gdV all t j with
      | some (.bool b) => (b = want → exOp P tt G t (flI q n0 e) n o.op (nxD (exD P tt G all n0 m rest A) q.k t e n o.dst K)) ∧
          (b ≠ want → exD P tt G all n0 m rest A (putT t o.dst (.tup [])) e (n + 16) K)
      | _ => False) := by
  obtain ⟨dst, op, ty, pos, after, gd⟩ := o
  cases gd <;> rfl
end
@[congr] theorem onQ.cong {α : Type} {x x' : Q α} {K : α → Prop} (h : x = x') : onQ x K = onQ x' K := by subst h; rfl
@[congr] theorem opt.cong {α β : Type} {x x' : Option α} {f : α → Q β} (h : x = x') : opt x f = opt x' f := by subst h; rfl
@[congr] theorem bnd.cong {α β : Type} {x x' : Q α} {f : α → Q β} (h : x = x') : bnd x f = bnd x' f := by subst h; rfl

/-- A body whose results, more than one, are told by value. -/
def finTB (tt : Nat → Option TI) (rs : List ResultVar) (r : List AV) (st : St) : Prop :=
  onQ (resQ tt st.e st.t rs) (fun vs => vs.length ≠ 1 ∧ onQ (vw.vwL st.e [] vs) fun p => p.1 = r)
def finT (tt : Nat → Option TI) (rs : List ResultVar) (r : List AV) : Exit → St → Prop
  | .normal, st => finTB tt rs r st
  | .ret, st => finTB tt rs r st
  | _, _ => False
theorem finT_ret {tt : Nat → Option TI} {rs : List ResultVar} {r : List AV} {st : St} : finT tt rs r .ret st = finTB tt rs r st := rfl
theorem finT_normal {tt : Nat → Option TI} {rs : List ResultVar} {r : List AV} {st : St} : finT tt rs r .normal st = finTB tt rs r st := rfl
theorem vwL_each {e h : Ents} : ∀ {l l' : List AV} {f : Bool}, Ok (vw.vwL e h l) (l', f) → l'.length = l.length ∧ ∀ (i : Nat) x', l'[i]? = some x' → ∃ x f', l[i]? = some x ∧ Ok (vw e h x) (x', f')
  | [], l', f, hk => by
    simp only [vw.vwL] at hk
    cases hk.ret
    exact ⟨rfl, fun i x' h => by simp at h⟩
  | a :: l, l', f, hk => by
    simp only [vw.vwL] at hk
    obtain ⟨⟨a', f1⟩, h1, hk⟩ := hk.bnd
    obtain ⟨⟨l1, f2⟩, h2, hk⟩ := hk.bnd
    cases hk.ret
    obtain ⟨h3, h4⟩ := vwL_each h2
    refine ⟨by simp [h3], fun i x' hi => ?_⟩
    cases i with
    | zero => simp at hi; subst hi; exact ⟨a, f1, rfl, h1⟩
    | succ i => simpa using h4 i x' (by simpa using hi)
theorem FnR.of_walkT {P : Program} {tt : Nat → Option TI} {G : Nat → Option AV} (hTT : TT P tt) {f : FuncId} {fn : Func} {c : Code} {args : List AV} {r : List AV} {m : Nat} (hf : P.funcs[f]? = some fn) (hb : fn.body = some c)
    (hm : fn.ntmps = m) (hargs : args.length ≤ m) (hW : W P G [] c ⟨parT 0 args, [], 0, m⟩ (finT tt fn.results.toList r)) : FnR P G f args [] (.tup r) [] := by
  intro B ρ w vs hbig hmem hgl hlen ha
  subst hm
  refine calls_of_wp hf hb (wp_mono (hW ⟨B, ρ, w⟩ _ w ?_) ?_)
  · refine ⟨ρ, Nm [], ⟨hmem, fun i x hi => ?_, hbig, hgl⟩, ⟨rfl, ?_⟩, fun n h => (by cases h), Evol.refl w⟩
    · obtain ⟨_, h2⟩ := lk_parT args 0 i x hi
      obtain ⟨v, h3, h4⟩ := ha i x (by simpa using h2)
      have hlt := (List.getElem?_eq_some_iff.1 h3).1
      exact ⟨v, by simp only [Array.getElem?_append, List.size_toArray]; rw [if_pos hlt]; simpa using h3, h4⟩
    · simp; omega
  · rintro x a' w' ⟨st, hx, hat⟩
    obtain ⟨ρ', D', hg, hd, hD, hev⟩ := hat
    have key : finTB tt fn.results.toList r st → ∃ u, (results fn a'.tmps).run P w' = .ok u w' ∧ ∃ x ρ', Ending.returned u = .returned x ∧ RV ρ' (Stab B ρ' [] w') w' (Nm []) (.tup r) x ∧ Mem B ρ' (Nm []) [] w' ∧ Kept B ρ [] w ρ' [] w' := by
      intro hv
      obtain ⟨us, h1, h2, h3⟩ := onQ_spec hv
      obtain ⟨⟨r', f'⟩, h4, h5⟩ := onQ_spec h3
      simp only at h5
      subst h5
      obtain ⟨u, h6, h7⟩ := results_run (P := P) hTT hg h1
      have hrv : resV us = .tup us := by
        match us, h2 with
        | [], _ => rfl
        | _ :: _ :: _, _ => rfl
      rw [hrv] at h7
      have hS : ∀ b, Stab B ρ' st.e w' b → Stab B ρ' [] w' b := fun b hb => ⟨hb.1, hb.2.1, fun m x hm => (by cases hm)⟩
      obtain ⟨k1, k2⟩ := vwL_each h4
      refine ⟨u, h6, u, ρ', rfl, ?_, ⟨fun m x hm => by (cases hm), fun m m' x x' hm => by (cases hm)⟩,
        ⟨fun b hb => ⟨hS b (hev.evo.stable b hb).1, (hev.evo.stable b hb).2⟩, hev.evo.sized⟩, fun n h1 _ => (hev.agree n h1).2, fun m x hm => by (cases hm), hev.size, hev.os, hev.out, hev.tape, hev.others⟩
      cases h7 with
      | one h => cases h
      | tup hl hh =>
        refine .tup (by rw [hl, k1]) (fun i x' hi => ?_)
        obtain ⟨x, f1, hx1, hx2⟩ := k2 i x' hi
        obtain ⟨cs, hc1, hc2⟩ := hh i x hx1
        obtain ⟨j1, j2⟩ := vw_sound (S' := Stab B ρ' [] w') (F := true) hS (fun nm x hx => (hg.mem.en nm x hx).2) (fun _ nm x hx _ => by
          refine ⟨hbig _ ?_, hg.mem.block_lt hx, fun m x hm => (by cases hm)⟩
          rcases hev.fresh nm x hx with ⟨m0, x0, h0, _⟩ | h
          · cases h0
          · exact h) _ cs x' f1 hc1 hx2 (fun _ => rfl)
        refine ⟨cs, j1, ?_⟩
        rw [hc2]
        simp only [shape, j2]
    cases x with
    | normal => obtain ⟨u, h1, h2⟩ := key hx; exact ⟨hd.1, u, h1, h2⟩
    | ret => obtain ⟨u, h1, h2⟩ := key hx; exact ⟨hd.1, u, h1, h2⟩
    | _ => exact hx.elim
end Sx
