/- copy, makes and conversions. -/
import Derived.Test.YtakgcmponelbeaaDoorSxS
import Derived.Laws.IdiomStrings
set_option linter.unusedVariables false
set_option linter.unusedSimpArgs false
namespace Sx
open Go

/-- The cells of an entry's row, written from one place on. -/
def Row.put (off : Nat) (s : Row) : Row → Option Row
  | .ints k xs => match s with
    | .ints k' ys => if k' = k then some (.ints k (xs.take off ++ ys ++ xs.drop (off + ys.length))) else none
    | _ => none
  | .strs xs => match s with
    | .strs ys => some (.strs (xs.take off ++ ys ++ xs.drop (off + ys.length)))
    | _ => none
  | _ => none
def Ent.put (off : Nat) (s : Row) : Ent → Option Ent
  | .obj T (.agg [.ints k n xs]) => match s with
    | .ints k' ys => if k' = k then some (.obj T (.agg [.ints k n (xs.take off ++ ys ++ xs.drop (off + ys.length))])) else none
    | _ => none
  | .vec T r => (Row.put off s r).map (.vec T)
  | _ => none

def copyQ (tt : Nat → Option TI) (e : Ents) (T : Nat) (x y : AV) : Q (AV × Del) :=
  opt (tt T) fun ti => match ti.kd with
  | .slice el => opt (tt el) fun te => bnd (srcQ te e y) fun s =>
    match x with
    | .nils => ret (.int .i64 0, [])
    | .sl nm sz off len => opt (lk e nm) fun z => opt z.row fun r => opt (z.put off (s.take (min s.len len))) fun z' => req (sz = 1 ∧ te.size = 1 ∧ off + len ≤ r.len) (ret (.int .i64 (min s.len len : Nat), [(nm, some z')]))
    | _ => none
  | _ => none

section
variable {P : Program} {tt : Nat → Option TI} {G : Nat → Option AV} {t : Tms} {e : Ents} {nb : Nat} {dst : Option Tmp} {ty : TypeId} {pos : String} {after : Array Edge} {gd : Option (Nat × Bool)}

theorem splice_take (l cs us : List Value) (q : Nat) (hc : l.take cs.length = cs) (hq : q + us.length ≤ cs.length) :
    (l.take q ++ us ++ l.drop (q + us.length)).take cs.length = cs.take q ++ us ++ cs.drop (q + us.length) := by
  have hl : cs.length ≤ l.length := by
    have := congrArg List.length hc; rw [List.length_take] at this; omega
  have e1 : l.take q = cs.take q := by rw [← hc, List.take_take]; congr 1; omega
  rw [e1, List.take_append, List.take_of_length_le (by simp; omega)]
  congr 1
  rw [← hc]
  rw [List.drop_take]
  simp only [List.length_append, List.length_take]
  congr 1
  omega

theorem put_row {ρ : Nat → Nat} {S : Nat → Prop} {w : World} {N : Nat → Prop} {b : Nat} {z z' : Ent} {r s : Row} {us : List Value} {off : Nat} (h : EntR ρ S w N b z) (hr : z.row = some r) (hz : z.put off s = some z') (hs : RowC ρ S w N s us) (hfit : off + s.len ≤ r.len) (hsz : r.sz = 1 → True) :
    ∃ c T, Cel w b c T ∧ off + us.length ≤ c.size ∧
      ∀ (S' : Nat → Prop) (w' : World), Cel w' b (c.toList.take off ++ us ++ c.toList.drop (off + us.length)).toArray T → EntR ρ S' w' N b z' := by
  cases h with
  | obj h hb =>
    unfold Ent.put at hz
    split at hz
    · next T0 k0 n0 xs0 heq =>
      cases heq
      split at hz
      · next k' ys =>
        split at hz
        · next hk =>
          subst hk
          cases hz
          cases hs
          simp only [Ent.row, Option.some.injEq] at hr
          subst hr
          cases h with
          | cons h1 h2 =>
            cases h2
            cases h1 with
            | ints hl =>
              simp only [Row.len] at hfit
              refine ⟨_, _, hb, ?_, fun S' w' hb' => ?_⟩
              · simp; omega
              have hlen : (xs0.take off ++ ys ++ xs0.drop (off + ys.length)).length = n0 := by simp; omega
              have := RC.cons (RC.ints (ρ := ρ) (S := S') (w := w') (N := N) (k := k') hlen) .nil
              refine .obj this ?_
              simpa using hb'
        · cases hz
      · cases hz
    · next heq => cases heq
    · cases hz
  | vec h hb hc =>
    rename_i T r0 cs c
    simp only [Ent.row, Option.some.injEq] at hr
    subst hr
    simp only [Ent.put, Option.map_eq_some_iff] at hz
    obtain ⟨r1, hz, rfl⟩ := hz
    have hle : cs.length ≤ c.size := by
      have := congrArg List.length hc; rw [List.length_take] at this; simp at this; omega
    cases h with
    | ints =>
      rename_i k xs
      simp only [Row.put] at hz
      split at hz
      · next k' ys =>
        split at hz
        · next hk =>
          subst hk
          cases hz
          cases hs
          simp only [Row.len] at hfit
          refine ⟨_, T, hb, by simp at hle ⊢; omega, fun S' w' hb' => .vec (cs := (xs.take off ++ ys ++ xs.drop (off + ys.length)).map (Value.int k')) .ints hb' ?_⟩
          have := splice_take c.toList (xs.map (Value.int k')) (ys.map (Value.int k')) off hc (by simp; omega)
          have e1 : ((xs.take off ++ ys ++ xs.drop (off + ys.length)).map (Value.int k')).length = (xs.map (Value.int k')).length := by simp; omega
          rw [e1, List.toList_toArray, this]
          simp
        · cases hz
      · cases hz
    | strs =>
      rename_i xs
      simp only [Row.put] at hz
      split at hz
      · next ys =>
        cases hz
        cases hs
        simp only [Row.len] at hfit
        refine ⟨_, T, hb, by simp at hle ⊢; omega, fun S' w' hb' => .vec (cs := (xs.take off ++ ys ++ xs.drop (off + ys.length)).map Value.string) .strs hb' ?_⟩
        have := splice_take c.toList (xs.map Value.string) (ys.map Value.string) off hc (by simp; omega)
        have e1 : ((xs.take off ++ ys ++ xs.drop (off + ys.length)).map Value.string).length = (xs.map Value.string).length := by simp; omega
        rw [e1, List.toList_toArray, this]
        simp
      · cases hz
    | nil => simp only [Row.put] at hz; cases hz
    | cons => simp only [Row.put] at hz; cases hz

theorem copy_run (hTT : TT P tt) {B : Nat → Prop} {ρ : Nat → Nat} {D : Nat → Prop} {a : Act} {w : World} {t' : Tms} {e' : Ents} (hg : Good B G ρ D t' e' a w) (hle : Le e e')
    {T tx : Nat} {x y v : AV} {d : Del} {ux uy : Value} (hx : RV ρ (Stab B ρ e' w) w D x ux) (hy : RV ρ (Stab B ρ e' w) w D y uy) (h : Ok (copyQ tt e T x y) (v, d)) (U : TypeId)
    (hkd : (∃ s, y = .str s) → P.underlying tx = some .string) (hks : (∀ s, y ≠ .str s) → ∃ e', P.underlying tx = some (.slice e')) :
    ∃ u w', (Builtin.copy_ #[T, tx] U #[ux, uy]).run P w = .ok u w' ∧ Post B ρ D e' w nb v d u w' := by
  unfold copyQ at h
  have hh := h.opt
  clear h
  obtain ⟨ti, h1, h⟩ := hh
  split at h
  rotate_left
  · exact h.none.elim
  next el hk =>
  have hh := h.opt
  clear h
  obtain ⟨te, h2, h⟩ := hh
  have hh := h.bnd
  clear h
  obtain ⟨s, h3, h⟩ := hh
  obtain ⟨news, ⟨hsrc, hpre⟩, hrow, hssz⟩ := src_run hg hle hy h3 hkd hks
  have hu := (hTT _ _ h1).uslice hk
  have hsize := (hTT _ _ h2).run_size (P := P) w
  have hl := hsrc.len w
  split at h
  · cases h.ret
    obtain ⟨cs0, e0, r0⟩ := hx.inv (by simp)
    subst e0
    cases r0
    have hp := hpre 0 (Nat.zero_le _)
    refine ⟨.int .i64 0, w, ?_, Post.pure hg.mem .ofInt⟩
    have hmin : Nat.min s.len 0 = 0 := by simp
    simp only [Builtin.copy_, shape, AV.isAgg, cond_false, List.headD_cons]
    simp [run_underlying hu, hl, hsize, hp, goInt]
  · next nm sz off len =>
    have hh := h.opt
    clear h
    obtain ⟨z, hz, h⟩ := hh
    have hh := h.opt
    clear h
    obtain ⟨r, hr, h⟩ := hh
    have hh := h.opt
    clear h
    obtain ⟨z', hz', h⟩ := hh
    have hh := h.req
    clear h
    obtain ⟨⟨h4, h5, h6⟩, h⟩ := hh
    cases h.ret
    subst h4
    obtain ⟨cs0, e0, r0⟩ := hx.inv (by simp)
    subst e0
    cases r0 with
    | sl hn ha hl' hm hb hc =>
    rename_i cap b n0
    have hze := hle _ _ hz
    have hent := (hg.mem.en _ _ hze).2
    have htk := hrow.take (min s.len len)
    rw [hssz, h5] at htk
    obtain ⟨c, T1, g1, g2, g3⟩ := put_row hent hr hz' htk (by rw [Row.take_len _ (Nat.min_le_left _ _)]; omega) (fun _ => trivial)
    have hp := hpre (min s.len len) (Nat.min_le_left _ _)
    rw [h5] at hp hsize
    have hnl : (news.take (min s.len len * 1)).length = min s.len len := by
      rw [List.length_take, hsrc.newsLen, h5]; omega
    refine ⟨.int .i64 (min s.len len : Nat), w.setRow (ρ nm) (c.toList.take off ++ news.take (min s.len len * 1) ++ c.toList.drop (off + (news.take (min s.len len * 1)).length)).toArray, ?_, ?_⟩
    · have hst : ∃ w1, (storeCells b (news.take (min s.len len * 1)) 0).run P w = .ok () w1 ∧ w1 = w.setRow (ρ nm) (c.toList.take off ++ news.take (min s.len len * 1) ++ c.toList.drop (off + (news.take (min s.len len * 1)).length)).toArray := by
        rcases ha with rfl | ⟨h0, _, _⟩
        · have := g1.store (P := P) g2 (fun v hv => hsrc.one v (List.mem_of_mem_take hv))
          rw [show off * 1 = off from Nat.mul_one _]
          exact ⟨_, this, rfl⟩
        · have h00 : min s.len len = 0 := by omega
          refine ⟨w, by rw [h00]; simp [storeCells], ?_⟩
          rw [h00]
          simp
          obtain ⟨fr, g1, _⟩ := g1
          exact (setRow_self w _ _ _ _ g1).symm
      obtain ⟨w1, k1, k2⟩ := hst
      rw [← k2]
      have hmin : Nat.min s.len len = min s.len len := rfl
      simp only [Builtin.copy_, shape, AV.isAgg, cond_false, List.headD_cons]
      simp only [Nat.mul_one] at hp k1
      simp [run_underlying hu, hl, hsize, hmin, hp, k1, goInt]
    · obtain ⟨ρ', D', p1, _, p3, p4⟩ := Post.write (nb := nb) hg.mem hze g1 (c' := (c.toList.take off ++ news.take (min s.len len * 1) ++ c.toList.drop (off + (news.take (min s.len len * 1)).length)).toArray) (x' := z') (by simp at g2 ⊢; omega) (fun S' w' _ hb' => g3 S' w' hb')
      exact ⟨ρ', D', p1, .ofInt, p3, p4⟩
  · exact h.none.elim

/-! ### append onto nil, by value -/

def Row.lst : Row → Option AV
  | .ints k xs => some (.lstI k xs)
  | .strs ss => some (.lstS ss)
  | _ => none
def appV (tt : Nat → Option TI) (e : Ents) (T : Nat) (x y : AV) : Q AV :=
  opt (tt T) fun ti => match ti.kd with
  | .slice el => opt (tt el) fun te => bnd (srcQ te e y) fun s =>
    match x with
    | .nils => opt s.lst fun v => req (s.len ≤ 140737488355328 ∧ s.len * te.bytes ≤ 140737488355328) (ret v)
    | _ => none
  | _ => none

/-- A new block, by value. -/
theorem lst_new {B : Nat → Prop} {ρ : Nat → Nat} {D : Nat → Prop} {e : Ents} {w : World} {r : Row} {v : AV} {news : List Value} {S0 : Nat → Prop} {w0 : World} {N0 : Nat → Prop} (hr : RowC ρ S0 w0 N0 r news) (hv : r.lst = some v) {b cap : Nat} {c : Array Value} {T : TypeId} {fr : Nat × Nat} (hb : w.heap[b]? = some (.cells c T fr)) (hS : Stab B ρ e w b)
    (ht : c.toList.take news.length = news) (hc : r.len ≤ cap) (hm : cap ≤ maxLen) : RV ρ (Stab B ρ e w) w D v (.slice (some ⟨b, 0, none⟩) r.len cap) := by
  have hcell : ∀ (j : Nat) (u : Value), news[j]? = some u → w.cell? ⟨b, j, none⟩ = some u := by
    intro j u hj
    have hlt := (List.getElem?_eq_some_iff.1 hj).1
    rw [← ht, List.getElem?_take, if_pos hlt] at hj
    have : c[j]? = some u := by simpa using hj
    simp [World.cell?, hb, this]
  cases hr <;> simp only [Row.lst] at hv <;> first | (cases hv; done) | skip
  · cases hv
    refine RV.one (cs := [_]) (RC.lstI hc hm (fun i x hi => ⟨b, 0, rfl, hS, ?_⟩))
    rw [Nat.zero_add]
    exact hcell i _ (by rw [List.getElem?_map, hi]; rfl)
  · cases hv
    refine RV.one (cs := [_]) (RC.lstS hc hm (fun i x hi => ⟨b, 0, rfl, hS, ?_⟩))
    rw [Nat.zero_add]
    exact hcell i _ (by rw [List.getElem?_map, hi]; rfl)

theorem appV_run (hTT : TT P tt) {B : Nat → Prop} {ρ : Nat → Nat} {D : Nat → Prop} {a : Act} {w : World} {t' : Tms} {e' : Ents} (hg : Good B G ρ D t' e' a w) (hle : Le e e')
    {T tx : Nat} {x y v : AV} {ux uy : Value} (hx : RV ρ (Stab B ρ e' w) w D x ux) (hy : RV ρ (Stab B ρ e' w) w D y uy) (h : Ok (appV tt e T x y) v) (U : TypeId)
    (hkd : (∃ s, y = .str s) → P.underlying tx = some .string) (hks : (∀ s, y ≠ .str s) → ∃ e', P.underlying tx = some (.slice e')) :
    ∃ u w', (Builtin.append_ #[T, tx] U #[ux, uy]).run P w = .ok u w' ∧ Post B ρ D e' w nb v [] u w' := by
  unfold appV at h
  have hh := h.opt
  clear h
  obtain ⟨ti, h1, h⟩ := hh
  split at h
  rotate_left
  · exact h.none.elim
  next el hk =>
  have hh := h.opt
  clear h
  obtain ⟨te, h2, h⟩ := hh
  have hh := h.bnd
  clear h
  obtain ⟨s, h3, h⟩ := hh
  split at h
  rotate_left
  · exact h.none.elim
  have hh := h.opt
  clear h
  obtain ⟨v', hv, h⟩ := hh
  have hh := h.req
  clear h
  obtain ⟨⟨h4, h5⟩, h⟩ := hh
  cases h.ret
  obtain ⟨news, ⟨hsrc, hpre⟩, hrow, hssz⟩ := src_run hg hle hy h3 hkd hks
  have hu := (hTT _ _ h1).uslice hk
  obtain ⟨i, hi, hisz, hiby, hiz⟩ := (hTT _ _ h2).info
  have hzsz : (shape te.z (conc te.z)).cells.size = te.size := by
    rw [(RC.conc ρ (Stab B ρ e' w) w D te.z (hTT _ _ h2).pl).cells]; simpa using (hTT _ _ h2).zs
  have hnl := hsrc.newsLen
  obtain ⟨cs0, e0, r0⟩ := hx.inv (by simp)
  subst e0
  cases r0
  simp only [shape, AV.isAgg, cond_false, List.headD_cons]
  by_cases hn : s.len = 0
  · have hnews : news = [] := List.eq_nil_of_length_eq_zero (by rw [hnl, hn, Nat.zero_mul])
    subst hnews
    rw [hn] at hsrc
    have hrun : (Builtin.append_ #[T, tx] U #[.slice none 0 0, uy]).run P w = .ok (.slice none 0 0) w := by
      rcases hsrc.kind with ⟨e', hk⟩ | hk <;> simp [Builtin.append_, run_underlying hu, run_underlying hk, (hTT _ _ h2).run_size, hsrc.len, hsrc.cells]
    refine ⟨_, _, hrun, Post.pure hg.mem ?_⟩
    cases s <;> simp only [Row.lst] at hv <;> first | (cases hv; done) | skip
    · cases hv
      simp only [Row.len] at hn
      have := List.eq_nil_of_length_eq_zero hn
      subst this
      exact RV.one (cs := [_]) (RC.lstI (a := none) (cap := 0) (by simp) (by simp [maxLen]) (fun i x hi => by simp at hi))
    · cases hv
      simp only [Row.len] at hn
      have := List.eq_nil_of_length_eq_zero hn
      subst this
      exact RV.one (cs := [_]) (RC.lstS (a := none) (cap := 0) (by simp) (by simp [maxLen]) (fun i x hi => by simp at hi))
  · have hrun := run_append_grow_src (P := P) w T tx U el i _ hu hi hiz none 0 0 [] (run_firstCells_none w.drew _ _ _ _) uy s.len news (by rw [hisz]; exact hsrc) (by omega) (by omega) (by rw [hiby]; exact growslice_fits (by omega) (by rw [Nat.zero_add]; exact h5))
    simp only [Nat.zero_add, List.nil_append] at hrun
    refine ⟨_, _, hrun, ?_⟩
    obtain ⟨hm1, he1⟩ := hg.mem.same (w' := w.drew) rfl rfl rfl rfl
    obtain ⟨q1, q2, q3⟩ := hm1.allocStable (hg.big _ (Nat.le_refl _)) (.cells (news.toArray ++ Builtin.zeroCells (shape te.z (conc te.z)).cells (grownCap w s.len 0 el - s.len)) el)
    refine ⟨ρ, D, fun n h => .inl h, ?_, q1, he1.trans q2⟩
    exact lst_new hrow hv (alloc_new w.drew _) q3 (by rw [Array.toList_append, List.toList_toArray, List.take_append_of_le_length (Nat.le_refl _), List.take_length]) (grownCap_ge w _ _ _) (grownCap_le_maxLen w _ _ _ (by simp only [maxLen]; omega))

/-! ### Strings and bytes -/

def s2bQ (tt : Nat → Option TI) (e : Ents) (t1 t2 : TI) (v : AV) : Q AV :=
  match t1.kd, t2.kd with
  | .slice el, .str => opt (tt el) fun te => match te.kd with
    | .int .u8 => bnd (srcQ te e v) fun s => match s with
      | .ints .u8 xs => req (∀ s, v ≠ .str s) (ret (.str (strOf xs)))
      | _ => none
    | _ => none
  | .str, .slice el => opt (tt el) fun te => match te.kd, v with
    | .int .u8, .str s => req (s.size ≤ 140737488355328) (ret (.lstI .u8 (bytesOf s)))
    | _, _ => none
  | _, _ => none

theorem foldl_strOf : ∀ (xs : List Int) (s : ByteArray), xs.foldl (fun r n => r.push (UInt8.ofNat n.toNat)) s = ⟨s.data ++ (xs.map fun n => UInt8.ofNat n.toNat).toArray⟩
  | [], s => by simp
  | x :: xs, s => by
    simp only [List.foldl_cons]
    rw [foldl_strOf xs]
    simp [ByteArray.push]
theorem foldl_empty (xs : List Int) : xs.foldl (fun r n => r.push (UInt8.ofNat n.toNat)) ByteArray.empty = strOf xs := by
  rw [foldl_strOf]
  have : ByteArray.empty.data = #[] := rfl
  rw [this]
  simp [strOf]

theorem bts_none (w : World) (n c : Nat) : (Conv.bytesToString (.slice none n c)).run P w = .ok (.string ByteArray.empty) w := by
  simp [Conv.bytesToString]
theorem s2b_sound (hTT : TT P tt) {T1 T2 : Nat} {t1 t2 : TI} {x : Operand} {p v : AV} (h1 : TyOK P T1 t1) (h2 : TyOK P T2 t2) (hx : ev G t x = some p) (h : Ok (s2bQ tt e t1 t2 p) v) :
    OpSound P G t e nb ⟨dst, .convert T1 T2 x, ty, pos, after, gd⟩ v [] := by
  intro B ρ D t' e' a w ht hle hg _
  have hv := ev_sound hg ht hx
  unfold s2bQ at h
  split at h
  · next el hk1 hk2 =>
    have hh := h.opt
    clear h
    obtain ⟨te, he, h⟩ := hh
    split at h
    · next hk =>
      have hh := h.bnd
      clear h
      obtain ⟨s, hs, h⟩ := hh
      split at h
      · next xs =>
        obtain ⟨hns, h⟩ := h.req
        cases h.ret
        have hu1 := h1.uslice hk1
        obtain ⟨news, ⟨hsrc, hpre⟩, hrow, hsz⟩ := src_run (tx := T1) hg hle hv hs (fun ⟨s, hs⟩ => absurd hs (hns s)) (fun _ => ⟨el, hu1⟩)
        cases hrow
        have hp := hpre xs.length (Nat.le_refl _)
        have hsz1 : te.size = 1 := hsz.symm
        have hrun : ∀ (ad : Option Addr) (n c : Nat), a.eval x = .slice ad n c → (execOp a.eval ⟨dst, .convert T1 T2 x, ty, pos, after, gd⟩).run P w = .ok (.value (.string (strOf xs))) w := by
          intro ad n c hax
          have hl := hsrc.len w
          rw [hax] at hl hp
          have hn : n = xs.length := by simpa [Builtin.lenOf, Row.len] using hl
          subst hn
          have : (convert T1 T2 (.slice ad xs.length c)).run P w = .ok (.string (strOf xs)) w := by
            rw [run_convert_bytes_string w T1 T2 el ad xs.length c hu1 ((hTT _ _ he).uint hk) (h2.ustr hk2)]
            cases ad with
            | none =>
              have hf : (xs.map (Value.int .u8)).length = 0 := by
                have e := hp
                rw [run_firstCells_none] at e
                have := congrArg (fun r : Result (Array Value) => match r with | .ok a _ => a.size | _ => 0) e
                simp [hsz1] at this
                simpa using this.symm
              have : xs = [] := by simpa using hf
              subst this
              rw [bts_none]
              rfl
            | some ad =>
              rw [run_bytesToString w ad xs.length c xs ?_, foldl_empty]
              have e := hp
              simp only [Builtin.firstCells, hsz1, Nat.mul_one] at e
              rw [e]
              rw [List.take_of_length_le (by simp)]
          simp only [execOp, hax, Sem.run_bind, this, Result.andThen_ok, Sem.run_pure]
        have hform : ∃ ad n c, a.eval x = .slice ad n c := by
          cases p <;> simp only [srcQ, rowOf] at hs <;> first | exact hs.none.elim | (obtain ⟨_, h9, _⟩ := hs.opt; cases h9; done) | (exact absurd rfl (hns _)) | skip
          all_goals
            obtain ⟨cs, hu, hr⟩ := hv.inv (by simp)
            cases hr
            exact ⟨_, _, _, hu⟩
        obtain ⟨ad, n, c, hax⟩ := hform
        exact .value (hrun ad n c hax) (Post.pure hg.mem .ofStr)
      · exact h.none.elim
    · exact h.none.elim
  · next el hk1 hk2 =>
    have hh := h.opt
    clear h
    obtain ⟨te, he, h⟩ := hh
    split at h
    · next s hk =>
      obtain ⟨hsl, h⟩ := h.req
      cases h.ret
      have hrun := run_bytes_of_string (P := P) w T1 T2 el s (h1.ustr hk1) (h2.uslice hk2) ((hTT _ _ he).uint hk)
      obtain ⟨hm1, he1⟩ := hg.mem.same (w' := w.drew) rfl rfl rfl rfl
      obtain ⟨q1, q2, q3⟩ := hm1.allocStable (hg.big _ (Nat.le_refl _)) (.cells (bytesRow s (grownCap w s.size 0 el)) el ((bytesRow s (grownCap w s.size 0 el)).size, (bytesRow s (grownCap w s.size 0 el)).size + 1))
      refine .value (x := .slice (some ⟨w.heap.size, 0, none⟩) s.size (grownCap w s.size 0 el)) (w' := w.drew.alloc (.cells (bytesRow s (grownCap w s.size 0 el)) el ((bytesRow s (grownCap w s.size 0 el)).size, (bytesRow s (grownCap w s.size 0 el)).size + 1))) ?_ ⟨ρ, D, fun n h => .inl h, ?_, q1, he1.trans q2⟩
      · simp only [execOp, hv.str_inv, Sem.run_bind, hrun, Result.andThen_ok, Sem.run_pure]
      · have hl : (bytesOf s).length = s.size := by simp [bytesOf]
        have := lst_new (r := .ints .u8 (bytesOf s)) (v := .lstI .u8 (bytesOf s)) (ρ := ρ) (D := D) (w := w.drew.alloc (.cells (bytesRow s (grownCap w s.size 0 el)) el ((bytesRow s (grownCap w s.size 0 el)).size, (bytesRow s (grownCap w s.size 0 el)).size + 1))) (cap := grownCap w s.size 0 el) (S0 := NoNm) (w0 := w) (N0 := NoNm) (RowC.ints (ρ := ρ)) rfl (alloc_new w.drew _) q3 ?_ ?_ ?_
        · simp only [Row.len, hl] at this
          exact this
        · rw [← byteCells_bytesOf]
          simp [bytesRow, byteCells]
        · simp only [Row.len, hl]; exact grownCap_ge w _ _ _
        · exact grownCap_le_maxLen w _ _ _ (by simp only [maxLen]; omega)
    · exact h.none.elim
  · exact h.none.elim
end
end Sx
