/-
  The program's of.
-/
import Derived.Test.YtggecoekoilahaaIdDel2
namespace Go.Proofs.Ytggecoekoilahaa
open Go.RowKit
set_option linter.unusedSimpArgs false
set_option linter.unusedVariables false

set_option maxHeartbeats 1000000 in
theorem of_any (v : Value) (l : List RC) (key : ByteArray) (w : World) (h : RowRd w v l) (hl : l.length ≤ 1000) :
    Calls Try.prog 24 #[v, .string key] w fun e w' => ∃ v', e = .returned v' ∧ RowRd w' v' (l.filter (RC.isOf key)) ∧ Below w.heap.size w w' := by
  have hX := heap_newA w (.cells #[.string key] 9)
  have hB0 : Below w.heap.size w (w.alloc (.cells #[.string key] 9)) := (Below.refl _ _).alloc (Nat.le_refl _) _
  have hr := h.below hB0
  have hz : (w.alloc (.cells #[.string key] 9)).heap.size = w.heap.size + 1 := by simp
  have HCL := Lib.hid (clone_any v l _ hr hl)
  have HDEL := Lib.hid (fun v' W (ho : W.ownsRow (w.heap.size + 1) 30 8 v' l.length (flat l)) (hb : Below (w.heap.size + 1) (w.alloc (.cells #[.string key] 9)) W) =>
    delete_any v' l.length l key w.heap.size (w.heap.size + 1) W ho hl (by omega) (by have := hb.size; omega) ((hb.cell (p := ⟨w.heap.size, 0, none⟩) (by show w.heap.size < _; omega)).trans (cell_of_row _ w.heap.size 0 _ _ (0, 0) hX)))
  rw [hz] at HCL
  have HB0 := Lib.hid hB0
  clear hX hr hB0 hz h
  obtain ⟨W0, hW0⟩ : ∃ W0, W0 = w.alloc (.cells #[.string key] 9) := ⟨_, rfl⟩
  rw [← hW0] at HCL HDEL HB0
  have HW0 := Lib.hid hW0
  clear hW0
  go_enter Try.func24, Try.ntmps24
  go_wp2_with fail
  rw [← HW0.out]
  refine HCL.out.mono ?_
  rintro e w1 ⟨v', rfl, ho, hb⟩
  have HO := Lib.hid ho
  clear ho
  go_wp2_with fail
  refine (HDEL.out _ _ HO.out hb).mono ?_
  rintro e w2 ⟨v'', rfl, hr, hb2⟩
  have HR := Lib.hid hr
  clear hr
  go_wp2
  go_ret
  exact ⟨_, rfl, HR.out, HB0.out.trans ((hb.mono (by omega)).trans (hb2.mono (by omega)))⟩
end Go.Proofs.Ytggecoekoilahaa
