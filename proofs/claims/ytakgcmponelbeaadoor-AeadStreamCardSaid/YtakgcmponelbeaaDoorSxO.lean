/- Regions that draw their order. -/
import Derived.Test.YtakgcmponelbeaaDoorSxN
import Derived.RegionTactic
set_option linter.unusedVariables false
set_option linter.unusedSimpArgs false
namespace Sx
open Go

/-- A table of results: of each operation its value, and what became of the entries. -/
abbrev Tab := Nat → AV × Del
def dstOf (ops : List Oper) (i : Nat) : Option Tmp := (ops[i]?).bind (·.dst)
/-- The state behind some operations. -/
def tF (ops : List Oper) (V : Tab) (t : Tms) : List Nat → Tms
  | [] => t
  | j :: l => tF ops V (putT t (dstOf ops j) (V j).1) l
def eF (V : Tab) (e : Ents) : List Nat → Ents
  | [] => e
  | j :: l => eF V (ap (V j).2 e) l
theorem tF_append (ops : List Oper) (V : Tab) : ∀ (l l' : List Nat) (t : Tms), tF ops V t (l ++ l') = tF ops V (tF ops V t l) l'
  | [], _, _ => rfl
  | j :: l, l', t => tF_append ops V l l' _
theorem eF_append (V : Tab) : ∀ (l l' : List Nat) (e : Ents), eF V e (l ++ l') = eF V (eF V e l) l'
  | [], _, _ => rfl
  | j :: l, l', t => eF_append V l l' _
theorem tF_congr {ops : List Oper} {V V' : Tab} : ∀ {l : List Nat} {t : Tms}, (∀ j ∈ l, V j = V' j) → tF ops V t l = tF ops V' t l
  | [], _, _ => rfl
  | j :: l, t, h => by simp only [tF]; rw [h j (by simp), tF_congr (l := l) (fun k hk => h k (by simp [hk]))]
theorem eF_congr {V V' : Tab} : ∀ {l : List Nat} {t : Ents}, (∀ j ∈ l, V j = V' j) → eF V t l = eF V' t l
  | [], _, _ => rfl
  | j :: l, t, h => by simp only [eF]; rw [h j (by simp), eF_congr (l := l) (fun k hk => h k (by simp [hk]))]

/-- The operation touches the entry. -/
def tch (V : Tab) (n j : Nat) : Bool := (V j).2.any (·.1 == n)

theorem lk_ap_not {d : Del} : ∀ {e : Ents} {n : Nat}, d.any (·.1 == n) = false → lk (ap d e) n = lk e n := by
  induction d with
  | nil => intro e n _; rfl
  | cons p d ih =>
    obtain ⟨k, x⟩ := p
    intro e n h
    simp only [List.any_cons, Bool.or_eq_false_iff, beq_eq_false_iff_ne] at h
    rw [ap, ih h.2, lk_up, if_neg h.1]
theorem lk_ap_congr {d : Del} : ∀ {e e' : Ents} {n : Nat}, lk e n = lk e' n → lk (ap d e) n = lk (ap d e') n := by
  induction d with
  | nil => intro e e' n h; exact h
  | cons p d ih =>
    obtain ⟨k, x⟩ := p
    intro e e' n h
    simp only [ap]
    apply ih
    rw [lk_up, lk_up, h]
theorem lk_eF_congr {V : Tab} : ∀ {l : List Nat} {e e' : Ents} {n : Nat}, lk e n = lk e' n → lk (eF V e l) n = lk (eF V e' l) n
  | [], _, _, _, h => h
  | j :: l, e, e', n, h => lk_eF_congr (l := l) (lk_ap_congr h)
theorem lk_eF_filter {V : Tab} : ∀ (l : List Nat) (e : Ents) (n : Nat), lk (eF V e l) n = lk (eF V e (l.filter (tch V n))) n
  | [], _, _ => rfl
  | j :: l, e, n => by
    simp only [eF]
    by_cases h : tch V n j = true
    · rw [List.filter_cons_of_pos h]; simp only [eF]; exact lk_eF_filter l _ n
    · have h' : tch V n j = false := by simpa using h
      rw [List.filter_cons_of_neg h, ← lk_eF_filter l e n]
      exact lk_eF_congr (lk_ap_not h')

def wr (ops : List Oper) (s j : Nat) : Bool := dstOf ops j == some s
theorem lk_putT_not {t : Tms} {d : Option Tmp} {v : AV} {s : Nat} (h : (d == some s) = false) : lk (putT t d v) s = lk t s := by
  cases d with
  | none => rfl
  | some d => rw [lk_putT, if_neg]; rintro rfl; simp at h
theorem lk_putT_congr {t t' : Tms} {d : Option Tmp} {v : AV} {s : Nat} (h : lk t s = lk t' s) : lk (putT t d v) s = lk (putT t' d v) s := by
  cases d with
  | none => exact h
  | some d => rw [lk_putT, lk_putT, h]
theorem lk_tF_congr {ops : List Oper} {V : Tab} : ∀ {l : List Nat} {t t' : Tms} {s : Nat}, lk t s = lk t' s → lk (tF ops V t l) s = lk (tF ops V t' l) s
  | [], _, _, _, h => h
  | j :: l, _, _, _, h => lk_tF_congr (l := l) (lk_putT_congr h)
theorem lk_tF_filter {ops : List Oper} {V : Tab} : ∀ (l : List Nat) (t : Tms) (s : Nat), lk (tF ops V t l) s = lk (tF ops V t (l.filter (wr ops s))) s
  | [], _, _ => rfl
  | j :: l, t, s => by
    simp only [tF]
    by_cases h : wr ops s j = true
    · rw [List.filter_cons_of_pos h]; simp only [tF]; exact lk_tF_filter l _ s
    · have h' : wr ops s j = false := by simpa using h
      rw [List.filter_cons_of_neg h, ← lk_tF_filter l t s]
      exact lk_tF_congr (lk_putT_not h')

/-- What is told of an operation: what it may do to entries (0: nothing; 1: it makes new ones; 2: more), whether it looks at some of the entries only, and its ancestors. -/
structure Inf where
  k : Nat
  f : Bool
  an : List Nat
instance : Inhabited Inf := ⟨⟨0, false, []⟩⟩
abbrev Infs := List Inf
def isA (A : Infs) (j i : Nat) : Bool := (A.getD i default).an.contains j
/-- The operation looks at no entry and makes none. -/
def blind : Op → Bool
  | .move _ | .assign _ | .extract _ _ | .binOp _ _ _ _ _ | .unOp _ _ _ | .pick _ _ _ => true
  | _ => false
def dstIn (d : Option Tmp) (l : List Tmp) : Bool :=
  match d with
  | some d => l.contains d
  | none => false

/-- What stands beside an operation that touches entries of some operations ahead of it. -/
def winOK (i : Nat) (q : Inf) (y ky : Nat) : Bool :=
  decide (ky ≤ 2) || (q.f && decide (ky - 3 ≤ y) && (i :: q.an).all fun j => decide (j + (ky - 3) < y) || decide (y < j))
/-- What the told facts have to meet. -/
def drawOK (ops : List Oper) (A : Infs) : Bool :=
  (List.range ops.length).all fun i =>
    match ops[i]? with
    | none => false
    | some o =>
      (A.getD i default).an.all (fun j => decide (j < i) && o.after.toList.any fun x => Region.binds .any x && (x.on == j || isA A j x.on)) &&
      o.after.toList.all (fun x => !Region.binds .any x || decide (x.on < i)) &&
      (!blind o.op || (A.getD i default).k == 0) &&
      (List.range ops.length).all fun y => y == i || isA A y i || isA A i y ||
        (((A.getD y default).k != 2 || blind o.op) && (blind o.op || winOK i (A.getD i default) y (A.getD y default).k) && !dstIn (dstOf ops y) (o.looksAt ops.toArray) && (o.dst.isNone || dstOf ops y != o.dst) && ((A.getD y default).k == 0 || (A.getD i default).f || blind o.op))

def Down (A : Infs) (n : Nat) (L : Nat → Bool) : Prop := ∀ i, i < n → L i = true → ∀ j, isA A j i = true → L j = true

/-- All the entries are the operation's own. -/
def ownL (n : Nat) : Del → Prop
  | [] => True
  | (k, _) :: d => (n ≤ k ∧ k < n + 16) ∧ ownL n d
/-- The entries are the operation's own, or of some operations ahead of it. -/
def ownS (s n : Nat) : Del → Prop
  | [] => True
  | (k, _) :: d => (n ≤ k + 16 * s ∧ k < n + 16) ∧ ownS s n d
def ownB (k n : Nat) (d : Del) : Prop :=
  match k with
  | 0 => d = []
  | 1 => ownL n d
  | 2 => True
  | s + 3 => ownS s n d
theorem ownS_get {s n : Nat} : ∀ {d : Del} {m : Nat}, ownS s n d → d.any (·.1 == m) = true → n ≤ m + 16 * s ∧ m < n + 16
  | [], _, _, h => by simp at h
  | (k, x) :: d, m, h, hm => by
    simp only [List.any_cons, Bool.or_eq_true, beq_iff_eq] at hm
    rcases hm with rfl | hm
    · exact h.1
    · exact ownS_get h.2 hm
theorem ownL_get {n : Nat} : ∀ {d : Del} {m : Nat}, ownL n d → d.any (·.1 == m) = true → n ≤ m ∧ m < n + 16
  | [], _, _, h => by simp at h
  | (k, x) :: d, m, h, hm => by
    simp only [List.any_cons, Bool.or_eq_true, beq_iff_eq] at hm
    rcases hm with rfl | hm
    · exact h.1
    · exact ownL_get h.2 hm

/-- The entries that an operation may look at. -/
def flE (n0 : Nat) (an : List Nat) : Ents → Ents
  | [] => []
  | (k, x) :: e => if (decide (k < n0) || an.contains ((k - n0) / 16)) = true then (k, x) :: flE n0 an e else flE n0 an e
theorem lk_flE {n0 : Nat} {an : List Nat} : ∀ {e : Ents} {n : Nat} {x : Ent}, lk (flE n0 an e) n = some x → lk e n = some x ∧ (n < n0 ∨ an.contains ((n - n0) / 16) = true)
  | [], _, _, h => by cases h
  | (k, y) :: e, n, x, h => by
    simp only [flE] at h
    split at h
    · next hq =>
      simp only [lk] at h ⊢
      split at h
      · next hk => subst hk; exact ⟨by simpa using h, by simpa using hq⟩
      · next hk => rw [if_neg hk]; exact lk_flE h
    · next hq =>
      obtain ⟨h1, h2⟩ := lk_flE h
      refine ⟨?_, h2⟩
      simp only [lk]
      split
      · next hk => subst hk; exact absurd (by simpa using h2) hq
      · exact h1
def flI (q : Inf) (n0 : Nat) (e : Ents) : Ents :=
  match q.f with
  | true => flE n0 q.an e
  | false => e

def idx (n : Nat) (L : Nat → Bool) : List Nat := (List.range n).filter L
theorem filter_idx {n : Nat} {L : Nat → Bool} {p : Nat → Bool} : (idx n L).filter p = (List.range n).filter fun j => L j && p j := by
  unfold idx; rw [List.filter_filter]; congr 1; funext j; rw [Bool.and_comm]
theorem range_filter {n i : Nat} (h : i ≤ n) (p : Nat → Bool) : (List.range i).filter p = (List.range n).filter fun j => decide (j < i) && p j := by
  induction n with
  | zero => have : i = 0 := by omega
            subst this; rfl
  | succ n ih =>
    by_cases hi : i = n + 1
    · subst hi; apply List.filter_congr; intro j hj; have := List.mem_range.1 hj; simp [this]
    · rw [List.range_succ, List.filter_append, ← ih (by omega)]
      simp; intro h; omega

section
variable {ops : List Oper} {A : Infs}
structure OKi (ops : List Oper) (A : Infs) (i : Nat) (o : Oper) : Prop where
  lt : ∀ j, isA A j i = true → j < i ∧ ∃ x ∈ o.after, Region.binds .any x = true ∧ (x.on = j ∨ isA A j x.on = true)
  pre : ∀ x ∈ o.after, Region.binds .any x = true → x.on < i
  bl : blind o.op = true → (A.getD i default).k = 0
  pair : ∀ y, y < ops.length → y ≠ i → isA A y i = false → isA A i y = false →
    ((A.getD y default).k ≠ 2 ∨ blind o.op = true) ∧ (∀ s, dstOf ops y = some s → s ∉ o.looksAt ops.toArray) ∧ (∀ s, o.dst = some s → dstOf ops y ≠ some s) ∧ ((A.getD y default).k = 0 ∨ (A.getD i default).f = true ∨ blind o.op = true) ∧
      (blind o.op = true ∨ (A.getD y default).k ≤ 2 ∨ ((A.getD i default).f = true ∧ (A.getD y default).k - 3 ≤ y ∧ ∀ j, (j = i ∨ isA A j i = true) → j + ((A.getD y default).k - 3) < y ∨ y < j))
theorem drawOK_get (h : drawOK ops A = true) {i : Nat} {o : Oper} (ho : ops[i]? = some o) : OKi ops A i o := by
  have hi := (List.getElem?_eq_some_iff.1 ho).1
  have := List.all_eq_true.1 h i (List.mem_range.2 hi)
  rw [ho] at this
  simp only [Bool.and_eq_true, Bool.or_eq_true, List.all_eq_true, List.any_eq_true, Array.mem_toList_iff, decide_eq_true_eq, beq_iff_eq, Bool.not_eq_true', List.mem_range, bne_iff_ne] at this
  obtain ⟨⟨⟨h1, h2⟩, h3⟩, h4⟩ := this
  refine ⟨fun j hj => ?_, fun x hx hb => ?_, fun hb => ?_, fun y hy hne ha hb => ?_⟩
  · obtain ⟨k1, x, k2, k3, k4⟩ := h1 j (by simpa [isA] using hj)
    exact ⟨k1, x, k2, k3, k4⟩
  · rcases h2 x hx with h | h
    · rw [hb] at h; cases h
    · exact h
  · rcases h3 with h | h
    · rw [hb] at h; cases h
    · exact h
  · rcases h4 y hy with ((h | h) | h) | ⟨⟨⟨⟨k1, k5⟩, k2⟩, k3⟩, k4⟩
    · exact absurd h hne
    · rw [ha] at h; cases h
    · rw [hb] at h; cases h
    · refine ⟨k1, fun s hs hm => ?_, fun s hs hd => ?_, ?_⟩
      · rw [hs] at k2; simp only [dstIn, List.contains_eq_mem, decide_eq_false_iff_not] at k2; exact k2 hm
      · rw [hs] at k3; simp [hd] at k3
      · refine ⟨?_, ?_⟩
        · rcases k4 with (h | h) | h
          · exact .inl h
          · exact .inr (.inl h)
          · exact .inr (.inr h)
        · rcases k5 with h | h
          · exact .inl h
          · simp only [winOK, Bool.or_eq_true, Bool.and_eq_true, decide_eq_true_eq, List.all_eq_true] at h
            rcases h with h | ⟨⟨h1, h2⟩, h3⟩
            · exact .inr (.inl h)
            · refine .inr (.inr ⟨h1, h2, fun j hj => h3 j ?_⟩)
              rcases hj with rfl | hj
              · simp
              · simp only [isA, List.contains_eq_mem, decide_eq_true_eq] at hj; exact List.mem_cons_of_mem _ hj

variable {V : Tab} {n0 : Nat}
theorem tch_cases (hown : ∀ i, i < ops.length → ownB (A.getD i default).k (n0 + 16 * i) (V i).2) {i n : Nat} (hi : i < ops.length) (ht : tch V n i = true) :
    (A.getD i default).k ≠ 0 ∧ ((A.getD i default).k = 2 ∨ ((A.getD i default).k = 1 ∧ n0 + 16 * i ≤ n ∧ n < n0 + 16 * i + 16) ∨ (3 ≤ (A.getD i default).k ∧ n0 + 16 * i ≤ n + 16 * ((A.getD i default).k - 3) ∧ n < n0 + 16 * i + 16)) := by
  have := hown i hi
  generalize (A.getD i default).k = k at *
  match k, this with
  | 0, h => simp only [ownB] at h; simp [tch, h] at ht
  | 1, h => exact ⟨by omega, .inr (.inl ⟨rfl, ownL_get h ht⟩)⟩
  | 2, _ => exact ⟨by omega, .inl rfl⟩
  | s + 3, h =>
    have := ownS_get h ht
    exact ⟨by omega, .inr (.inr ⟨by omega, by simpa using this.1, this.2⟩)⟩

theorem lt_of_isA (hOK : drawOK ops A = true) {i j : Nat} (hi : i < ops.length) (h : isA A j i = true) : j < i :=
  ((drawOK_get hOK (List.getElem?_eq_getElem hi)).lt j h).1

/-- What the operation sees of the entries is there in every order. -/
theorem loc_e (hOK : drawOK ops A = true) (hown : ∀ i, i < ops.length → ownB (A.getD i default).k (n0 + 16 * i) (V i).2) {L : Nat → Bool} {i : Nat} {o : Oper} (ho : ops[i]? = some o) (hb : blind o.op = false)
    (hd : Down A ops.length L) (hLi : L i = false) (hanc : ∀ j, isA A j i = true → L j = true) (e : Ents) :
    Le (flI (A.getD i default) n0 (eF V e (List.range i))) (eF V e (idx ops.length L)) := by
  have hi := (List.getElem?_eq_some_iff.1 ho).1
  have K := drawOK_get hOK ho
  intro n x hx
  have hx' : lk (eF V e (List.range i)) n = some x ∧ ((A.getD i default).f = true → n < n0 ∨ (A.getD i default).an.contains ((n - n0) / 16) = true) := by
    unfold flI at hx
    split at hx
    · next hq => exact ⟨(lk_flE hx).1, fun _ => (lk_flE hx).2⟩
    · next hq => exact ⟨hx, fun h => by rw [hq] at h; cases h⟩
  rw [← hx'.1, lk_eF_filter (List.range i), lk_eF_filter (idx ops.length L), filter_idx, range_filter (Nat.le_of_lt hi)]
  congr 2
  apply List.filter_congr
  intro y hy
  have hy : y < ops.length := List.mem_range.1 hy
  cases ht : tch V n y with
  | false => simp
  | true =>
    rw [Bool.and_true, Bool.and_true]
    by_cases hyi : y = i
    · subst hyi; rw [hLi]; simp
    · cases h1 : isA A y i with
      | true => rw [hanc y h1]; simp [lt_of_isA hOK hi h1]
      | false =>
        cases h2 : isA A i y with
        | true =>
          have := lt_of_isA hOK hy h2
          cases hLy : L y with
          | true => have := hd y hy hLy i h2; rw [hLi] at this; cases this
          | false => simp; omega
        | false =>
          -- not in order: the operation makes entries of its own only, and this is one of them
          exfalso
          obtain ⟨p1, _, _, p4, p5⟩ := K.pair y hy hyi h1 h2
          obtain ⟨q0, q⟩ := tch_cases hown hy ht
          rcases p1 with p1 | p1
          · rcases q with q | q | q
            · omega
            rotate_left
            · rcases p5 with p5 | p5 | ⟨p5, p6, p7⟩
              · rw [hb] at p5; cases p5
              · omega
              · rcases hx'.2 p5 with g | g
                · omega
                · have := p7 ((n - n0) / 16) (.inr g)
                  omega
            · rcases p4 with p4 | p4 | p4
              · exact q0 p4
              · rcases hx'.2 p4 with g | g
                · omega
                · have : (n - n0) / 16 = y := by omega
                  rw [this] at g; unfold isA at h1; rw [g] at h1; cases h1
              · rw [hb] at p4; cases p4
          · rw [hb] at p1; cases p1

/-- What the operation looks at of the slots is the same in every order. -/
theorem loc_t (hOK : drawOK ops A = true) {L : Nat → Bool} {i : Nat} {o : Oper} (ho : ops[i]? = some o)
    (hd : Down A ops.length L) (hLi : L i = false) (hanc : ∀ j, isA A j i = true → L j = true) (t : Tms) {s : Tmp} (hs : s ∈ o.looksAt ops.toArray) :
    lk (tF ops V t (List.range i)) s = lk (tF ops V t (idx ops.length L)) s := by
  have hi := (List.getElem?_eq_some_iff.1 ho).1
  have K := drawOK_get hOK ho
  rw [lk_tF_filter (List.range i), lk_tF_filter (idx ops.length L), filter_idx, range_filter (Nat.le_of_lt hi)]
  congr 2
  apply List.filter_congr
  intro y hy
  have hy : y < ops.length := List.mem_range.1 hy
  cases ht : wr ops s y with
  | false => simp
  | true =>
    have ht' : dstOf ops y = some s := by simpa [wr] using ht
    rw [Bool.and_true, Bool.and_true]
    by_cases hyi : y = i
    · subst hyi; rw [hLi]; simp
    · cases h1 : isA A y i with
      | true => rw [hanc y h1]; simp [lt_of_isA hOK hi h1]
      | false =>
        cases h2 : isA A i y with
        | true =>
          have := lt_of_isA hOK hy h2
          cases hLy : L y with
          | true => have := hd y hy hLy i h2; rw [hLi] at this; cases this
          | false => simp; omega
        | false => exact absurd hs ((K.pair y hy hyi h1 h2).2.1 s ht')

def ins (L : Nat → Bool) (i : Nat) : Nat → Bool := fun j => j == i || L j
theorem ins_filter {n i : Nat} {L : Nat → Bool} (hi : i < n) (hLi : L i = false) {p : Nat → Bool} (hp : p i = true) (hlast : ∀ y, y < n → i < y → L y = true → p y = false) :
    (List.range n).filter (fun j => ins L i j && p j) = (List.range n).filter (fun j => L j && p j) ++ [i] := by
  induction n with
  | zero => omega
  | succ n ih =>
    rw [List.range_succ, List.filter_append, List.filter_append]
    by_cases hin : i = n
    · subst hin
      have h1 : (List.range i).filter (fun j => ins L i j && p j) = (List.range i).filter (fun j => L j && p j) := by
        apply List.filter_congr; intro j hj
        have : (j == i) = false := beq_eq_false_iff_ne.2 (by have := List.mem_range.1 hj; omega)
        simp only [ins, this, Bool.false_or]
      rw [h1]; simp [ins, hp, hLi]
    · rw [ih (by omega) (fun y hy => hlast y (by omega))]
      have : (ins L i n && p n) = false := by
        simp only [ins]
        cases hL : L n with
        | true => rw [hlast n (by omega) (by omega) hL]; simp
        | false => simp; intro h; omega
      have h2 : (L n && p n) = false := by
        cases hL : L n with
        | true => rw [hlast n (by omega) (by omega) hL]; simp
        | false => simp
      simp [this, h2]
theorem ins_filter_not {n i : Nat} {L : Nat → Bool} {p : Nat → Bool} (hp : p i = false) :
    (List.range n).filter (fun j => ins L i j && p j) = (List.range n).filter (fun j => L j && p j) := by
  apply List.filter_congr
  intro j _
  by_cases h : j = i
  · subst h; simp [hp]
  · have : (j == i) = false := beq_eq_false_iff_ne.2 h
    simp only [ins, this, Bool.false_or]

theorem ins_t (hOK : drawOK ops A = true) {L : Nat → Bool} {i : Nat} {o : Oper} (ho : ops[i]? = some o) (hd : Down A ops.length L) (hLi : L i = false) (t : Tms) (s : Nat) :
    lk (tF ops V t (idx ops.length (ins L i))) s = lk (putT (tF ops V t (idx ops.length L)) o.dst (V i).1) s := by
  have hi := (List.getElem?_eq_some_iff.1 ho).1
  have K := drawOK_get hOK ho
  have hdst : dstOf ops i = o.dst := by simp [dstOf, ho]
  rw [lk_tF_filter, filter_idx]
  cases hw : wr ops s i with
  | false =>
    rw [ins_filter_not hw, ← filter_idx, ← lk_tF_filter, lk_putT_not]
    simpa [wr, hdst] using hw
  | true =>
    have hw' : o.dst = some s := by simpa [wr, hdst] using hw
    rw [ins_filter hi hLi hw, tF_append, ← filter_idx]
    · simp only [tF, hdst, hw', lk_putT, if_true]
    · intro y hy hlt hLy
      cases ht : wr ops s y with
      | false => rfl
      | true =>
        have ht' : dstOf ops y = some s := by simpa [wr] using ht
        cases h1 : isA A y i with
        | true => have := lt_of_isA hOK hi h1; omega
        | false =>
          cases h2 : isA A i y with
          | true => have := hd y hy hLy i h2; rw [hLi] at this; cases this
          | false => exact absurd ht' ((K.pair y hy (by omega) h1 h2).2.2.1 s hw')
theorem ins_e (hOK : drawOK ops A = true) (hown : ∀ i, i < ops.length → ownB (A.getD i default).k (n0 + 16 * i) (V i).2) {L : Nat → Bool} {i : Nat} {o : Oper} (ho : ops[i]? = some o) (hd : Down A ops.length L) (hLi : L i = false) (e : Ents) (n : Nat) :
    lk (eF V e (idx ops.length (ins L i))) n = lk (ap (V i).2 (eF V e (idx ops.length L))) n := by
  have hi := (List.getElem?_eq_some_iff.1 ho).1
  have K := drawOK_get hOK ho
  rw [lk_eF_filter, filter_idx]
  cases hw : tch V n i with
  | false =>
    rw [ins_filter_not hw, ← filter_idx, ← lk_eF_filter, lk_ap_not]
    exact hw
  | true =>
    rw [ins_filter hi hLi hw, eF_append, ← filter_idx]
    · exact lk_ap_congr (lk_eF_filter _ _ _).symm
    · intro y hy hlt hLy
      cases ht : tch V n y with
      | false => rfl
      | true =>
        obtain ⟨q0, q⟩ := tch_cases hown hy ht
        obtain ⟨r0, r⟩ := tch_cases hown hi hw
        have hbi : blind o.op = false := by
          cases hb : blind o.op with
          | false => rfl
          | true => exact absurd (K.bl hb) r0
        have Ky := drawOK_get hOK (List.getElem?_eq_getElem hy)
        have hby : blind (ops[y]'hy).op = false := by
          cases hb : blind (ops[y]'hy).op with
          | false => rfl
          | true => exact absurd (Ky.bl hb) q0
        cases h1 : isA A y i with
        | true => have := lt_of_isA hOK hi h1; omega
        | false =>
          cases h2 : isA A i y with
          | true => have := hd y hy hLy i h2; rw [hLi] at this; cases this
          | false =>
            have p1 := (K.pair y hy (by omega) h1 h2).1
            have p2 := (Ky.pair i hi (by omega) h2 h1).1
            have p5 := (K.pair y hy (by omega) h1 h2).2.2.2.2
            rw [hbi] at p1 p5; rw [hby] at p2
            simp only [Bool.false_eq_true, or_false, false_or] at p1 p2 p5
            rcases p5 with p5 | ⟨p5, p6, p7⟩
            · omega
            · have := p7 i (.inl rfl)
              omega
end

end Sx
