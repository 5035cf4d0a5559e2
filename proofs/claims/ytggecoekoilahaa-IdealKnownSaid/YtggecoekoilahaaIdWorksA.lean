/-
  The chapter's examples: small helpers.
-/
import Derived.Test.YtggecoekoilahaaIdLaw1
import Derived.Test.YtggecoekoilahaaIdEval
namespace Go.Proofs.Ytggecoekoilahaa
open Go.RowKit
set_option linter.unusedSimpArgs false
set_option linter.unusedVariables false

theorem row_new (W : World) (L : List RC) (ty : TypeId) : RowRd (W.alloc (.cells (flat L).toArray ty)) (.slice (some ⟨W.heap.size, 0, none⟩) L.length L.length) L := by
  refine CellsAt.row (cur := (flat L).toArray) (fun t c j u ht hj => ?_) (heap_newA _ _) (Nat.le_refl _)
  rw [Nat.zero_add, List.getElem?_toArray]
  exact flat_at L t c j u ht hj
theorem five_rd {W : World} {g : Nat} {ty : TypeId} (h : W.heap[g]? = some (.cells #[.int .u8 5] ty)) : BytesRd W (.slice (some ⟨g, 0, none⟩) 1 1) [5] := by
  refine ⟨by simp, some ⟨g, 0, none⟩, 1, rfl, Nat.le_refl _, fun _ => ⟨g, 0, rfl, lt_of_heap h, fun i hi => ?_⟩⟩
  obtain rfl : i = 0 := by simp at hi; omega
  exact cell_of_row W g 0 _ _ (0, 0) h
theorem exA_rd {W : World} {g : Nat} {ty : TypeId} (h : W.heap[g]? = some (.cells #[.int .u8 5] ty)) (to co : Int) : (exA g to co).rd W := ⟨five_rd h, BytesRd.nil W⟩
theorem exB_rd {W : World} {g : Nat} {ty : TypeId} (h : W.heap[g]? = some (.cells #[.int .u8 5] ty)) (fr to : Int) : (exB g fr to).rd W := ⟨BytesRd.nil W, five_rd h⟩
theorem exN_rd (W : World) (fr to : Int) : (exN fr to).rd W := ⟨BytesRd.nil W, BytesRd.nil W⟩
def RdAll (W : World) : List CM → Prop
  | [] => True
  | m :: l => m.rd W ∧ RdAll W l
theorem allRd_of {W : World} {o : Obj} : ∀ {L : List CM}, RdAll W L → AllRd (W.alloc o) L
  | [], _ => fun m hm => by simp at hm
  | m :: l, h => fun k hk => by
    rcases List.mem_cons.1 hk with rfl | hk
    · exact h.1.below ((Below.refl _ _).alloc (Nat.le_refl _) _)
    · exact allRd_of h.2 k hk
/-- A call of Permits at a row that is written out. -/
theorem ex_call (W : World) (L : List CM) (b : Bool) (hl : L.length ≤ 3) (hr : AllRd (W.alloc (.cells (flat (rcs L)).toArray 30)) L) (hk : ∀ m ∈ L, m.c.key = keyK) (hP : permB L = b) :
    Calls Try.prog 8 #[.slice (some ⟨W.heap.size, 0, none⟩) (rcs L).length (rcs L).length] (W.alloc (.cells (flat (rcs L)).toArray 30)) fun e w' => e = .returned (.bool b) ∧ Below W.heap.size W w' ∧ W.heap.size < w'.heap.size :=
  (permits_is _ L _ (row_new W (rcs L) _) (by omega) hr (fun m hm => by rw [hk m hm]; unfold maxLen; decide) b (by rw [permB_iff, hP])).mono fun e w' ⟨he, hb⟩ =>
    ⟨he, ((Below.refl _ _).alloc (Nat.le_refl _) _).trans (hb.mono (by simp)), by have := hb.size; simp at this; omega⟩

theorem alloc3 (W : World) (A B C : Obj) : (((W.alloc A).alloc B).alloc C).heap[W.heap.size]? = some A ∧ (((W.alloc A).alloc B).alloc C).heap[W.heap.size + 1]? = some B ∧ (((W.alloc A).alloc B).alloc C).heap[W.heap.size + 1 + 1]? = some C := by
  refine ⟨keepA (keepA (heap_newA _ _) _) _, ?_, ?_⟩
  · have := heap_newA (W.alloc A) B
    exact keepA (by simpa using this) _
  · have := heap_newA ((W.alloc A).alloc B) C
    simpa using this

end Go.Proofs.Ytggecoekoilahaa
