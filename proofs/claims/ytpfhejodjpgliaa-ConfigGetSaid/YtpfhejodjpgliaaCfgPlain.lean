/-
  What a code amounts to: plain functions on numbers.
-/
import Derived.WalkKit
namespace Go.Proofs.Ytpfhejodjpgliaa
open Go.RowKit

/-- What a code amounts to. -/
structure Sh where
  al : Int
  b : Int
  te : Int
  as_ : Int
  to : Int
deriving DecidableEq

def Sh.zero : Sh := ⟨0, 0, 0, 0, 0⟩
def Sh.v (s : Sh) : Value := .agg #[.int .i64 s.al, .int .i64 s.b, .int .i64 s.te, .int .i64 s.as_, .int .i64 s.to]

def okReed (n k d r : Int) : Bool := (decide (k ≤ n) && decide (d = 0)) && decide (r = 0)
def shReed (k t : Int) : Sh := ⟨1, k, k, k + 2 * t, 1⟩
def okMsr (n k d r : Int) : Bool := ((((decide (r = 0) && decide (1 < k)) && decide (2 * k - 2 ≤ d)) && decide (d < n)) && decide (d - k + 1 ≤ 16)) && decide (n + d - 2 * k + 2 ≤ 255 / (Int.gcd (d - k + 1) 255 : Int))
def shMsr (k d t : Int) : Sh := ⟨d - k + 1, k * (d - k + 1), k, d + 2 * t, 1⟩
def okMbr (n k d r : Int) : Bool := (decide (r = 0) && decide (k ≤ d)) && decide (d < n)
def shMbr (k d t : Int) : Sh := ⟨d, k * d - k * (k - 1) / 2, k, d + 2 * t, 1⟩
def okTr (n k d r t : Int) : Bool := (((decide (d = 0) && decide (r = 0)) && decide (t = 0)) && decide (k < n)) && decide (n ≤ 23)
def shTr (n k : Int) : Sh := ⟨n - 1, k * (n - 1) - k * (k - 1) / 2, k, n - 1, 1⟩
def okLoc0 (n k d r : Int) : Bool := (((decide (d = 0) && decide (1 ≤ r)) && decide (255 % (r + 1) = 0)) && decide (n % (r + 1) = 0)) && decide (k % r = 0)
def okLoc (n k d r : Int) : Bool := okLoc0 n k d r && decide (k + k / r - 1 ≤ n)
def shLoc (k r t : Int) : Sh := ⟨1, k, k + k / r - 1, if 0 < t then k + k / r - 1 + 2 * t else r, 1⟩

def locSh (n k d r t : Int) : Sh := if okLoc0 n k d r then shLoc k r t else .zero

/-- What the kind amounts to; nothing: zero. -/
def shapeF (c n k d r t : Int) : Sh :=
  if k < 1 then .zero
  else if c = 1 then (if okReed n k d r then shReed k t else .zero)
  else if c = 2 then (if okMsr n k d r then shMsr k d t else .zero)
  else if c = 3 then (if okMbr n k d r then shMbr k d t else .zero)
  else if c = 4 then (if okTr n k d r t then shTr n k else .zero)
  else if c = 5 then (if okLoc n k d r then shLoc k r t else .zero)
  else .zero

def inRange (n k d r t : Int) : Prop := 1 ≤ n ∧ n ≤ 255 ∧ 0 ≤ k ∧ k ≤ 255 ∧ 0 ≤ d ∧ d ≤ 255 ∧ 0 ≤ r ∧ r ≤ 255 ∧ 0 ≤ t ∧ t ≤ 127
instance (n k d r t : Int) : Decidable (inRange n k d r t) := by unfold inRange; exact inferInstance

def fits (s : Sh) (n t w : Int) : Prop := s ≠ .zero ∧ s.te + 2 * t ≤ w ∧ w ≤ n ∧ s.as_ < n ∧ s.te + 2 * t < n
instance (s : Sh) (n t w : Int) : Decidable (fits s n t w) := by unfold fits; exact inferInstance

/-- What Check answers, if it is no error. -/
def checkF (c n k d r t w : Int) : Option Sh :=
  if inRange n k d r t ∧ fits (shapeF c n k d r t) n t w then some (shapeF c n k d r t) else none

def checkV : Option Sh → Value
  | some s => .tuple #[s.v, .int .i64 0]
  | none => .tuple #[Sh.zero.v, .int .i64 130]

theorem mul_bd {a b A B : Int} (ha : 0 ≤ a) (hA : a ≤ A) (hb : 0 ≤ b) (hB : b ≤ B) : 0 ≤ a * b ∧ a * b ≤ A * B :=
  ⟨Int.mul_nonneg ha hb, Int.mul_le_mul hA hB hb (by omega)⟩

end Go.Proofs.Ytpfhejodjpgliaa
