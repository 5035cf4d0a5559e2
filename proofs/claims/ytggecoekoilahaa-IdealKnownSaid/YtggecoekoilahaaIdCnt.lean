/-
  How many calls of each key count: a map keyed by strings.
-/
import Derived.Test.YtggecoekoilahaaIdSeen
namespace Go.Proofs.Ytggecoekoilahaa
open Go.RowKit
set_option linter.unusedSimpArgs false
set_option linter.unusedVariables false

/-- What the table tells of each text. -/
def CntIs (w : World) (bm n : Nat) (C : ByteArray → Int) : Prop :=
  ∃ D : DataW Unit, w.ownsMap Try.prog 9 (plainElem Try.prog 3) bm n D ∧ Maps.IsMap D ∧ ∀ s : ByteArray, s.size ≤ maxLen → D.atKey (.string s.data.toList) (.lit (.int .i64 0)) = .lit (.int .i64 (C s))

theorem text_keyed : Maps.Keyed Try.prog 9 := Maps.string_keyed Try.underlying9
theorem text_key (s : ByteArray) (hs : s.size ≤ maxLen) : keyOf Try.prog 9 (.string s) = some (.string s.data.toList) := by
  simp [keyOf, Try.underlying9, mapKey, hs]
theorem CntIs.made (w : World) : CntIs (w.alloc (.map #[] 0)) w.heap.size 0 (fun _ => 0) := ⟨_, World.ownsMap_made _ _ _ _, ⟨[], rfl⟩, fun _ _ => rfl⟩
theorem CntIs.kept {w w' : World} {bm n : Nat} {C : ByteArray → Int} {row : Option Nat} (h : CntIs w bm n C) (hg : w.grownBy w' row) (hne : some bm ≠ row) : CntIs w' bm n C := by
  obtain ⟨D, h1, h2, h3⟩ := h
  exact ⟨D, h1.kept hg hne, h2, h3⟩
theorem CntIs.below {w w' : World} {bm n : Nat} {C : ByteArray → Int} (h : CntIs w bm n C) (hb : Below w.heap.size w w') : CntIs w' bm n C :=
  h.kept (row := none) ⟨hb.os, hb.tape, hb.output, hb.size, fun k hk _ => hb.block k hk⟩ (by simp)
theorem CntIs.lt {w : World} {bm n : Nat} {C : ByteArray → Int} (h : CntIs w bm n C) : bm < w.heap.size := by
  obtain ⟨D, h1, _, _⟩ := h
  exact h1.lt
theorem CntIs.mono {w : World} {bm n n' : Nat} {C : ByteArray → Int} (h : CntIs w bm n C) (hn : n ≤ n') : CntIs w bm n' C := by
  obtain ⟨D, h1, h2, h3⟩ := h
  exact ⟨D, h1.mono hn, h2, h3⟩
theorem CntIs.same {w : World} {bm n : Nat} {C C' : ByteArray → Int} (h : CntIs w bm n C) (hC : ∀ s, C s = C' s) : CntIs w bm n C' := by
  obtain ⟨D, h1, h2, h3⟩ := h
  exact ⟨D, h1, h2, fun s hs => by rw [h3 s hs, hC s]⟩
theorem CntIs.look {w : World} {bm n : Nat} {C : ByteArray → Int} (h : CntIs w bm n C) (s : ByteArray) (hs : s.size ≤ maxLen) :
    (Instr.lookup 49 (.map (some bm)) (.string s) false).run Try.prog w = .ok (.int .i64 (C s)) w := by
  obtain ⟨D, h1, h2, h3⟩ := h
  obtain ⟨c, hrun, hat, _⟩ := h1.lookup_int text_keyed Try.underlying49 Try.underlying3 (zeroInt w) (text_key s hs)
  rw [h3 s hs] at hat
  simp only [DataW.lit.injEq, Lit.int.injEq, true_and] at hat
  rw [hat]
  exact hrun
theorem CntIs.put {w : World} {bm n : Nat} {C : ByteArray → Int} (h : CntIs w bm n C) (hn : n < maxLen) (s : ByteArray) (hs : s.size ≤ maxLen) (v : Int) (hv : (Lit.int .i64 v).wf = true) :
    ∃ w', (Instr.mapUpdate 49 (.map (some bm)) (.string s) (.int .i64 v)).run Try.prog w = .ok () w' ∧ CntIs w' bm (n + 1) (fun s' => if s'.toList = s.toList then v else C s') ∧ w.grownBy w' (some bm) := by
  obtain ⟨D, h1, h2, h3⟩ := h
  obtain ⟨w', hrun, h4, h5⟩ := h1.update text_keyed Try.underlying49 hn (text_key s hs) (plainElem_int Try.underlying3 hv)
  refine ⟨w', hrun, ⟨_, h4, h2.put _ _, fun s' hs' => ?_⟩, h5⟩
  show _ = DataW.lit (.int .i64 (if s'.toList = s.toList then v else C s'))
  rw [ByteArray.toList_eq, ByteArray.toList_eq]
  by_cases e : s'.data.toList = s.data.toList
  · rw [if_pos e, e]
    exact Maps.atKey_put_same h2 (text_keyed.key (text_key s hs)) _ _
  · rw [if_neg e, Maps.atKey_put_other (by simpa using e)]
    exact h3 s' hs'
end Go.Proofs.Ytggecoekoilahaa
