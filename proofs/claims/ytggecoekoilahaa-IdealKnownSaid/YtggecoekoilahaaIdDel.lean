/-
  slices.DeleteFunc at calls, with the program's closure.
-/
import Derived.Test.YtggecoekoilahaaIdOf
namespace Go.Proofs.Ytggecoekoilahaa
open Go.RowKit
set_option linter.unusedSimpArgs false
set_option linter.unusedVariables false

/-- A row of cells holds these calls from place 'off' on. -/
def CellsAt (cur : Array Value) (off : Nat) (L : List RC) : Prop := ∀ t c j u, L[t]? = some c → c.cells[j]? = some u → cur[(off + t) * 8 + j]? = some u

theorem cells_lt {c : RC} {j : Nat} {u : Value} (h : c.cells[j]? = some u) : j < 8 := by
  rcases Nat.lt_or_ge j 8 with h1 | h1
  · exact h1
  · rw [List.getElem?_eq_none (by rw [cells_length]; exact h1)] at h; cases h

def set8 (cur : Array Value) (k : Nat) (c : RC) : Array Value :=
  (((((((cur.setIfInBounds k (.int .i64 c.cl)).setIfInBounds (k + 1) (.int .u8 c.kd)).setIfInBounds (k + 2) (.string c.key)).setIfInBounds (k + 3) (.slice c.va c.vl c.vc)).setIfInBounds (k + 4) (.int .i64 c.fr)).setIfInBounds (k + 5) (.int .i64 c.to)).setIfInBounds (k + 6) (.int .i64 c.co)).setIfInBounds (k + 7) (.slice c.ga c.gl c.gc)
theorem set8_size (cur : Array Value) (k : Nat) (c : RC) : (set8 cur k c).size = cur.size := by simp [set8]
theorem set8_in (cur : Array Value) (k : Nat) (c : RC) (h : k + 8 ≤ cur.size) (j : Nat) (u : Value) (hj : c.cells[j]? = some u) : (set8 cur k c)[k + j]? = some u := by
  have hj8 := cells_lt hj
  unfold set8
  simp only [Array.getElem?_setIfInBounds, Array.size_setIfInBounds]
  simp only [RC.cells] at hj
  match j, hj8, hj with
  | 0, _, hj | 1, _, hj | 2, _, hj | 3, _, hj | 4, _, hj | 5, _, hj | 6, _, hj | 7, _, hj =>
    simp at hj
    subst hj
    simp
    omega
theorem set8_out (cur : Array Value) (k : Nat) (c : RC) (t : Nat) (h : t < k ∨ k + 8 ≤ t) : (set8 cur k c)[t]? = cur[t]? := by
  unfold set8
  simp only [Array.getElem?_setIfInBounds, Array.size_setIfInBounds]
  rw [if_neg (by omega), if_neg (by omega), if_neg (by omega), if_neg (by omega), if_neg (by omega), if_neg (by omega), if_neg (by omega), if_neg (by omega)]

theorem CellsAt.push {cur : Array Value} {F : List RC} {c : RC} (h : CellsAt cur 0 F) (hs : F.length * 8 + 8 ≤ cur.size) : CellsAt (set8 cur (F.length * 8) c) 0 (F ++ [c]) := by
  intro t c' j u ht hj
  have hj8 := cells_lt hj
  rw [Nat.zero_add]
  by_cases e : t < F.length
  · rw [List.getElem?_append_left e] at ht
    rw [set8_out _ _ _ _ (by omega)]
    have := h t c' j u ht hj
    rwa [Nat.zero_add] at this
  · have e2 : t = F.length := by
      have : t < (F ++ [c]).length := (List.getElem?_eq_some_iff.1 ht).1
      simp at this
      omega
    subst e2
    rw [List.getElem?_append_right (Nat.le_refl _)] at ht
    simp at ht
    subst ht
    exact set8_in cur _ c hs j u hj
theorem CellsAt.rest {cur : Array Value} {J : Nat} {l : List RC} {c : RC} {K : Nat} (h : CellsAt cur J (l.drop J)) (hK : K ≤ J) : CellsAt (set8 cur (K * 8) c) (J + 1) (l.drop (J + 1)) := by
  intro t c' j u ht hj
  have hj8 := cells_lt hj
  rw [set8_out _ _ _ _ (by omega)]
  have := h (t + 1) c' j u (by rw [List.getElem?_drop] at ht ⊢; rw [show J + (t + 1) = J + 1 + t by omega]; exact ht) hj
  rwa [show J + (t + 1) = J + 1 + t by omega] at this
theorem CellsAt.next {cur : Array Value} {J : Nat} {l : List RC} (h : CellsAt cur J (l.drop J)) : CellsAt cur (J + 1) (l.drop (J + 1)) := by
  intro t c' j u ht hj
  have := h (t + 1) c' j u (by rw [List.getElem?_drop] at ht ⊢; rw [show J + (t + 1) = J + 1 + t by omega]; exact ht) hj
  rwa [show J + (t + 1) = J + 1 + t by omega] at this
theorem CellsAt.row {cur : Array Value} {F : List RC} {w : World} {g cap : Nat} {ty : TypeId} (h : CellsAt cur 0 F) (hw : w.heap[g]? = some (.cells cur ty)) (hc : F.length ≤ cap) : RowRd w (.slice (some ⟨g, 0, none⟩) F.length cap) F := by
  refine ⟨_, cap, rfl, hc, fun _ => ⟨g, 0, rfl, lt_of_heap hw, fun i c hi j u hj => ?_⟩⟩
  have h1 : w.cell? ⟨g, 0 + i * 8 + j, none⟩ = cur[0 + i * 8 + j]? := by
    unfold World.cell?
    simp only [hw]
    rfl
  rw [h1]
  have := h i c j u hi hj
  rwa [Nat.zero_add] at this ⊢
theorem CellsAt.of_row {w : World} {g cap : Nat} {l : List RC} {cur : Array Value} {ty : TypeId} (h : RowRd w (.slice (some ⟨g, 0, none⟩) l.length cap) l) (hw : w.heap[g]? = some (.cells cur ty)) : CellsAt cur 0 l := by
  intro t c j u ht hj
  obtain ⟨a', cap', h1, h2, h3⟩ := h
  cases h1
  obtain ⟨b, o, h4, h5, h6⟩ := h3 (fun e => by rw [e] at ht; simp at ht)
  cases h4
  have h7 := h6 t c ht j u hj
  have h8 : w.cell? ⟨g, 0 + t * 8 + j, none⟩ = cur[0 + t * 8 + j]? := by
    unfold World.cell?
    simp only [hw]
    rfl
  rw [h8] at h7
  rw [Nat.zero_add] at h7 ⊢
  exact h7
theorem CellsAt.drop {cur : Array Value} {l : List RC} (h : CellsAt cur 0 l) (J : Nat) : CellsAt cur J (l.drop J) := by
  intro t c j u ht hj
  rw [List.getElem?_drop] at ht
  have := h (J + t) c j u ht hj
  rwa [Nat.zero_add] at this
theorem CellsAt.take {cur : Array Value} {l : List RC} (h : CellsAt cur 0 l) (J : Nat) : CellsAt cur 0 (l.take J) := by
  intro t c j u ht hj
  rw [List.getElem?_take] at ht
  split at ht
  · exact h t c j u ht hj
  · cases ht
end Go.Proofs.Ytggecoekoilahaa
