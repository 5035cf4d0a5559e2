/-
  One block of a world that is else a variable, written out: stores into it, loads from it.
-/
import Derived.WalkKit
import Derived.Deep.Draws
namespace Go.Proofs.Ytjlehnmcfimnfaa
open Go.RowKit

/-- Block g holds o. -/
def putBlk (w : World) (g : Nat) (o : Obj) : World := { w with heap := w.heap.setIfInBounds g o }

theorem putBlk_self {w : World} {g : Nat} {o : Obj} (h : w.heap[g]? = some o) : putBlk w g o = w := by
  unfold putBlk
  have : w.heap.setIfInBounds g o = w.heap := by
    apply Array.ext_getElem?
    intro i
    rw [Array.getElem?_setIfInBounds]
    by_cases hi : g = i
    · subst hi
      rw [if_pos rfl]
      have hl := (Array.getElem?_eq_some_iff.1 h).1
      rw [if_pos hl, h]
    · rw [if_neg hi]
  rw [this]

theorem size_putBlk (w : World) (g : Nat) (o : Obj) : (putBlk w g o).heap.size = w.heap.size := by simp [putBlk]
theorem heap_putBlk {w : World} {g : Nat} (o : Obj) (h : g < w.heap.size) : (putBlk w g o).heap[g]? = some o := by simp [putBlk, h]
theorem heap_putBlk_ne {w : World} {g k : Nat} (o : Obj) (h : k ≠ g) : (putBlk w g o).heap[k]? = w.heap[k]? := by
  simp only [putBlk]
  rw [Array.getElem?_setIfInBounds, if_neg (fun e => h e.symm)]

theorem cell_putBlk {w : World} {g : Nat} (cs : Array Value) (t : TypeId) (fr : Nat × Nat) (i : Nat) (h : g < w.heap.size) : (putBlk w g (.cells cs t fr)).cell? ⟨g, i, none⟩ = cs[i]? := by
  unfold World.cell?
  simp only [heap_putBlk _ h]
  rfl
theorem cell_putBlk_ne {w : World} {g k : Nat} (o : Obj) (i : Nat) (s : Option Nat) (h : k ≠ g) : (putBlk w g o).cell? ⟨k, i, s⟩ = w.cell? ⟨k, i, s⟩ := by
  unfold World.cell?
  simp only [heap_putBlk_ne o h]
theorem frozen_putBlk {w : World} {g : Nat} (cs : Array Value) (t : TypeId) (i : Nat) (h : g < w.heap.size) : (putBlk w g (.cells cs t (0, 0))).frozen? ⟨g, i, none⟩ = false := by
  unfold World.frozen?
  simp [heap_putBlk _ h]
theorem frozen_putBlk_ne {w : World} {g k : Nat} (o : Obj) (i : Nat) (s : Option Nat) (h : k ≠ g) : (putBlk w g o).frozen? ⟨k, i, s⟩ = w.frozen? ⟨k, i, s⟩ := by
  unfold World.frozen?
  simp only [heap_putBlk_ne o h]

theorem setCell_putBlk (w : World) (g : Nat) (cs : Array Value) (t : TypeId) (fr : Nat × Nat) (i : Nat) (v : Value) :
    (putBlk w g (.cells cs t fr)).setCell ⟨g, i, none⟩ v = putBlk w g (.cells (cs.setIfInBounds i v) t fr) := by
  unfold putBlk World.setCell
  congr 1
  apply Array.ext_getElem?
  intro k
  simp only [Array.getElem?_modify, Array.getElem?_setIfInBounds]
  by_cases hk : g = k
  · subst hk
    simp only [if_true]
    by_cases hl : g < w.heap.size <;> simp [hl]
  · simp [hk]

theorem putBlk_putBlk (w : World) (g : Nat) (o o' : Obj) : putBlk (putBlk w g o) g o' = putBlk w g o' := by
  unfold putBlk
  simp

/-- Below what is written nothing has turned. -/
theorem bel_putBlk {B : Nat} {a w : World} (h : Below B a w) {g : Nat} (hg : B ≤ g) (o : Obj) : Below B a (putBlk w g o) :=
  ⟨h.os, h.tape, h.output, by rw [size_putBlk]; exact h.size, fun k hk => (heap_putBlk_ne o (by omega)).trans (h.block k hk)⟩

/-- A world of which one block is known. -/
theorem put_of {w : World} {g : Nat} {o : Obj} (h : w.heap[g]? = some o) : ∃ w2, w = putBlk w2 g o ∧ g < w2.heap.size ∧ ∀ p : World → Prop, p w → p w2 := ⟨w, (putBlk_self h).symm, (Array.getElem?_eq_some_iff.1 h).1, fun _ h => h⟩

attribute [go_sem] size_putBlk cell_putBlk cell_putBlk_ne frozen_putBlk frozen_putBlk_ne setCell_putBlk
end Go.Proofs.Ytjlehnmcfimnfaa
