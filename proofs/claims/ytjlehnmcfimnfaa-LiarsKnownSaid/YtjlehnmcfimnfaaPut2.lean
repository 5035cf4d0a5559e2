/-
  More of blocks written out: two of them; what is known of a block, behind calls and new blocks.
-/
import Derived.Test.YtjlehnmcfimnfaaPut
namespace Go.Proofs.Ytjlehnmcfimnfaa
open Go.RowKit

theorem setCell_putBlk_ne (w : World) (g k : Nat) (o : Obj) (i : Nat) (s : Option Nat) (v : Value) (h : k ≠ g) : (putBlk w g o).setCell ⟨k, i, s⟩ v = putBlk (w.setCell ⟨k, i, s⟩ v) g o := by
  unfold putBlk World.setCell
  congr 1
  apply Array.ext_getElem?
  intro j
  simp only [Array.getElem?_modify, Array.getElem?_setIfInBounds, Array.size_modify]
  by_cases hk : k = j
  · subst hk
    simp only [if_true]
    rw [if_neg (fun e => h e.symm), if_neg (fun e => h e.symm)]
  · simp only [if_neg hk]

/-- What is known of a block is known behind a call. -/
theorem keepB {W w' : World} (hb : Below W.heap.size W w') {g : Nat} {o : Obj} (h : W.heap[g]? = some o) : w'.heap[g]? = some o :=
  (hb.block g (Array.getElem?_eq_some_iff.1 h).1).trans h
theorem lt_of_heap {W : World} {g : Nat} {o : Obj} (h : W.heap[g]? = some o) : g < W.heap.size := (Array.getElem?_eq_some_iff.1 h).1
theorem keepA {W : World} {g : Nat} {o : Obj} (h : W.heap[g]? = some o) (x : Obj) : (W.alloc x).heap[g]? = some o := by
  show (W.heap.push x)[g]? = _
  rw [Array.getElem?_push, if_neg (by have := lt_of_heap h; omega)]
  exact h

theorem heap_newA (w : World) (o : Obj) : (w.alloc o).heap[w.heap.size]? = some o := by
  show (w.heap.push o)[w.heap.size]? = _
  rw [Array.getElem?_push, if_pos rfl]
/-- A cell stored into a block that is known. -/
theorem heap_set_same {W : World} {g : Nat} {cs : Array Value} {ty : TypeId} {fr : Nat × Nat} (h : W.heap[g]? = some (.cells cs ty fr)) (i : Nat) (v : Value) :
    (W.setCell ⟨g, i, none⟩ v).heap[g]? = some (.cells (cs.setIfInBounds i v) ty fr) := by
  unfold World.setCell
  simp [Array.getElem?_modify, h]

attribute [go_sem] setCell_putBlk_ne
end Go.Proofs.Ytjlehnmcfimnfaa
