/-
  Rows of ints that are read.
-/
import Derived.Test.YtjlehnmcfimnfaaSRd
import Derived.Lib.Hide
import Derived.IntWalk
namespace Go.Proofs.Ytjlehnmcfimnfaa
open Go.RowKit
set_option linter.unusedVariables false

def intC (x : Int) : List Value := [.int .i64 x]
theorem intC_length (x : Int) : (intC x).length = 1 := rfl
/-- A slice value that reads as these numbers. -/
abbrev IRd (w : World) (v : Value) (l : List Int) : Prop := SRd 1 intC w v l
theorem flat_ints (l : List Int) : flatS intC l = l.map (Value.int .i64) := by
  induction l with
  | nil => rfl
  | cons a l ih => unfold flatS at *; rw [List.flatMap_cons, ih]; rfl
theorem IRd.cell {w : World} {a : Option Addr} {m cap : Nat} {l : List Int} (h : IRd w (.slice a m cap) l) {i : Nat} {x : Int} (hi : l[i]? = some x) : m = l.length ∧ l.length ≤ cap ∧ ∃ b o, a = some ⟨b, o, none⟩ ∧ b < w.heap.size ∧ w.cell? ⟨b, o + i, none⟩ = some (.int .i64 x) := by
  obtain ⟨h1, h2, b, o, h3, h4, h5⟩ := h.at hi
  refine ⟨h1, h2, b, o, h3, h4, ?_⟩
  have := h5 0 _ rfl
  simpa using this
/-- The numbers of a row, read off its cells. -/
theorem IRd.cells {w : World} {b o m cap : Nat} {l : List Int} (h : IRd w (.slice (some ⟨b, o, none⟩) m cap) l) : ∀ i x, l[i]? = some x → w.cell? ⟨b, o + i, none⟩ = some (.int .i64 x) := by
  intro i x hi
  obtain ⟨_, _, b', o', h3, _, h5⟩ := h.cell hi
  cases h3
  exact h5
theorem IRd.mk {w : World} {b o cap : Nat} {l : List Int} (hc : l.length ≤ cap) (hb : b < w.heap.size) (h : ∀ i x, l[i]? = some x → w.cell? ⟨b, o + i, none⟩ = some (.int .i64 x)) : IRd w (.slice (some ⟨b, o, none⟩) l.length cap) l := by
  refine ⟨_, cap, rfl, hc, fun _ => ⟨b, o, rfl, hb, fun i c hi j u hj => ?_⟩⟩
  have hj0 : j = 0 := by
    have := (List.getElem?_eq_some_iff.1 hj).1
    simp [intC] at this
    exact this
  subst hj0
  simp [intC] at hj
  subst hj
  have := h i c hi
  simpa using this
theorem IRd.of_owns {w : World} {base t : Nat} {v : Value} {m : Nat} {l : List Int} (h : w.ownsRow base t 1 v m (l.map (Value.int .i64))) : IRd w v l :=
  SRd.of_owns intC_length (by omega) (by rw [flat_ints]; exact h)
end Go.Proofs.Ytjlehnmcfimnfaa
