/- The document's constants: by whole roots they are the code's. -/
import Derived.Test.YtageadccfdbmjaaDoorRsA
import Derived.Test.YtageadccfdbmjaaDoorShB
set_option linter.unusedVariables false
set_option linter.unusedSimpArgs false
namespace Go.Proofs.YtageadccfdbmjaaDoor
open Sx
set_option maxRecDepth 1000000
set_option maxHeartbeats 0
/-! The same with any way to wrap: so that the kernel evaluates with a quick one. -/
def stTg (W : Int → Int) (l : List Int) (n : Int) : Nat → List Int × Int
  | 0 => ([], 0)
  | i + 1 => match stTg W l n i with
    | (o, c) => if i < l.length then (o ++ [(W (c + W (l.getD i 0 * n.tmod 65536))).tmod 65536], W ((W (c + W (l.getD i 0 * n.tmod 65536))).tdiv 65536)) else (o ++ [c.tmod 65536], W (c.tdiv 65536))
def gTg (W : Int → Int) (l : List Int) (n : Int) (i : Nat) : Bool := decide (i < l.length) || decide (0 < (stTg W l n i).2)
def kTg (W : Int → Int) (l : List Int) (n : Int) : Nat := fst (gTg W l n) (l.length + 6) 0
def stPg (W : Int → Int) (a b : List Int) : Nat → List Int × Int
  | 0 => ([], 0)
  | i + 1 => match stPg W a b i with
    | (o, c) => let c1 := if i < a.length then W (c + a.getD i 0) else c
                let c2 := if i < b.length then W (c1 + b.getD i 0) else c1
                (o ++ [c2.tmod 65536], W (c2.tdiv 65536))
def gPg (W : Int → Int) (a b : List Int) (i : Nat) : Bool := decide (i < a.length) || (decide (i < b.length) || decide (0 < (stPg W a b i).2))
def kPg (W : Int → Int) (a b : List Int) : Nat := fst (gPg W a b) (a.length + b.length + 6) 0
def plusNg (W : Int → Int) (a b : List Int) : List Int := (stPg W a b (kPg W a b)).1
def stUg (W : Int → Int) (l : List Int) (n : Int) : Nat → (List Int × List Int) × (Int × Int)
  | 0 => (([], []), (0, 0))
  | i + 1 => match stUg W l n i with
    | ((lo, hi), (c, d)) =>
      let x := if i < l.length then l.getD i 0 else 0
      let c := W (c + W (x * n.tmod 65536))
      let d := W (d + W (x * W (n.tdiv 65536)))
      ((lo ++ [c.tmod 65536], hi ++ [d.tmod 65536]), (W (c.tdiv 65536), W (d.tdiv 65536)))
def times1Ng (W : Int → Int) (l : List Int) (n : Int) : List Int := plusNg W (stUg W l n (l.length + 3)).1.1 (0 :: (stUg W l n (l.length + 3)).1.2)
def timesNg (W : Int → Int) (l : List Int) (n : Int) : List Int :=
  if n < 65536 then (stTg W l n (kTg W l n)).1 else plusNg W (stTg W l n (kTg W l n)).1 (0 :: times1Ng W l (W (n.tdiv 65536)))
def powNg (W : Int → Int) (m : Int) : Nat → List Int
  | 0 => timesNg W [1] m
  | i + 1 => timesNg W (powNg W m i) m
def rootKg (W : Int → Int) (p : Int) (pw : Nat) : Nat → Int × Int
  | 0 => (0, 68719476736)
  | i + 1 => match rootKg W p pw i with
    | (n, bit) => (if aboveN (powNg W (W (n + W (bit.tdiv 2))) (pw - 1)) (mostN p pw) then n else W (n + W (bit.tdiv 2)), W (bit.tdiv 2))
def rootNg (W : Int → Int) (p : Int) (pw : Nat) : Int := IntKind.u32.wrap ((rootKg W p pw 36).1.tmod 4294967296)
theorem rootN_g (p : Int) (pw : Nat) : rootN p pw = rootNg W64 p pw := by kernel_rfl
def Wq (x : Int) : Int := x % 18446744073709551616
theorem W64_q : W64 = Wq := by funext x; rw [W64, IntKind.wrap_u64, Wq]
theorem rootN_q (p : Int) (pw : Nat) : rootN p pw = rootNg Wq p pw := by rw [rootN_g, W64_q]
def frI {α : Type} (x : Int) (f : Int → α) : α :=
  match x with
  | .ofNat 0 => f 0
  | .ofNat (m + 1) => f (.ofNat (m + 1))
  | .negSucc m => f (.negSucc m)
theorem frI_eq {α : Type} (x : Int) (f : Int → α) : frI x f = f x := by
  unfold frI; split <;> rfl
def frL {α : Type} : List Int → (List Int → α) → α
  | [], f => f []
  | x :: l, f => frI x fun y => frL l fun m => f (y :: m)
theorem frL_eq {α : Type} : ∀ (l : List Int) (f : List Int → α), frL l f = f l
  | [], f => rfl
  | x :: l, f => by rw [frL, frI_eq, frL_eq l]
def times1F (l : List Int) (n : Int) : List Int := frL (stUg Wq l n (l.length + 3)).1.1 fun a => frL (stUg Wq l n (l.length + 3)).1.2 fun b => plusNg Wq a (0 :: b)
def timesF (l : List Int) (n : Int) : List Int :=
  if n < 65536 then (stTg Wq l n (kTg Wq l n)).1 else frL (stTg Wq l n (kTg Wq l n)).1 fun a => frI (Wq (n.tdiv 65536)) fun q => frL (times1F l q) fun u => plusNg Wq a (0 :: u)
theorem timesF_eq (l : List Int) (n : Int) : timesF l n = timesNg Wq l n := by
  simp only [timesF, frL_eq, frI_eq, times1F]; rfl
def powF (m : Int) : Nat → List Int
  | 0 => timesF [1] m
  | i + 1 => frL (powF m i) fun l => timesF l m
theorem powF_eq (m : Int) : ∀ i, powF m i = powNg Wq m i
  | 0 => by rw [powF, timesF_eq]; rfl
  | i + 1 => by rw [powF, frL_eq, powF_eq m i, timesF_eq]; rfl
def rootF (p : Int) (pw : Nat) : Nat → Int × Int
  | 0 => (0, 68719476736)
  | i + 1 => match rootF p pw i with
    | (n, bit) => frI (Wq (bit.tdiv 2)) fun b => frI n fun n => frI (Wq (n + b)) fun m => frL (powF m (pw - 1)) fun l => match aboveN l (mostN p pw) with
      | true => (n, b)
      | false => (m, b)
theorem rootF_eq (p : Int) (pw : Nat) : ∀ i, rootF p pw i = rootKg Wq p pw i
  | 0 => rfl
  | i + 1 => by
    rw [rootF, rootKg, rootF_eq p pw i]
    generalize rootKg Wq p pw i = s
    obtain ⟨n, bit⟩ := s
    simp only [frI_eq, frL_eq, powF_eq]
    generalize aboveN (powNg Wq (Wq (n + Wq (bit.tdiv 2))) (pw - 1)) (mostN p pw) = q
    cases q <;> rfl
theorem rootN_f (p : Int) (pw : Nat) : rootN p pw = IntKind.u32.wrap ((rootF p pw 36).1.tmod 4294967296) := by rw [rootN_q, rootF_eq]; rfl
def pl64 : List Int := [2, 3, 5, 7, 11, 13, 17, 19, 23, 29, 31, 37, 41, 43, 47, 53, 59, 61, 67, 71, 73, 79, 83, 89, 97, 101, 103, 107, 109, 113, 127, 131, 137, 139, 149, 151, 157, 163, 167, 173, 179, 181, 191, 193, 197, 199, 211, 223, 227, 229, 233, 239, 241, 251, 257, 263, 269, 271, 277, 281, 283, 293, 307, 311]
theorem pr64 : prK 310 = pl64 := by kernel_rfl
theorem pr63 : (prK 309).length = 63 := by kernel_rfl
theorem pr8 : prK 18 = pl64.take 8 := by kernel_rfl
theorem pr7 : (prK 17).length = 7 := by kernel_rfl
theorem rt_of {p c : Int} {pw : Nat} (h : (rootF p pw 36).1.tmod 4294967296 = c) (hc : IntKind.u32.wrap c = c) : rootN p pw = c := by rw [rootN_f, h, hc]
end Go.Proofs.YtageadccfdbmjaaDoor
