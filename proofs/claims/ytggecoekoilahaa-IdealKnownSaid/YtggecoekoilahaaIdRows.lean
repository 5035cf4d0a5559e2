/-
  Rows of calls that a function has made.
-/
import Derived.Test.YtggecoekoilahaaIdBase
namespace Go.Proofs.Ytggecoekoilahaa
open Go.RowKit
set_option linter.unusedVariables false

/-- The cells of a row of calls. -/
def flat : List RC → List Value
  | [] => []
  | c :: l => c.cells ++ flat l
theorem flat_append (l m : List RC) : flat (l ++ m) = flat l ++ flat m := by
  induction l with
  | nil => rfl
  | cons c l ih => simp [flat, ih]
theorem cells_length (c : RC) : c.cells.length = 8 := rfl
theorem flat_length (l : List RC) : (flat l).length = l.length * 8 := by
  induction l with
  | nil => rfl
  | cons c l ih => simp only [flat, List.length_append, cells_length, ih, List.length_cons]; omega
theorem flat_at : ∀ (l : List RC) (i : Nat) (c : RC) (j : Nat) (u : Value), l[i]? = some c → c.cells[j]? = some u → (flat l)[i * 8 + j]? = some u
  | [], i, c, j, u, h, _ => by simp at h
  | d :: l, 0, c, j, u, h, hj => by
    simp only [List.getElem?_cons_zero, Option.some.injEq] at h
    subst h
    have hl : j < d.cells.length := by
      rcases Nat.lt_or_ge j d.cells.length with h | h
      · exact h
      · rw [List.getElem?_eq_none h] at hj; cases hj
    rw [flat, Nat.zero_mul, Nat.zero_add, List.getElem?_append_left hl]
    exact hj
  | d :: l, i + 1, c, j, u, h, hj => by
    rw [flat, List.getElem?_append_right (by rw [cells_length]; omega), cells_length, show (i + 1) * 8 + j - 8 = i * 8 + j by omega]
    exact flat_at l i c j u (by simpa using h) hj
theorem flat_one (l : List RC) : ∀ u ∈ flat l, u.oneCell' = true := by
  induction l with
  | nil => intro u h; cases h
  | cons c l ih =>
    intro u h
    rcases List.mem_append.1 h with h | h
    · simp only [RC.cells, List.mem_cons, List.not_mem_nil, or_false] at h
      rcases h with rfl | rfl | rfl | rfl | rfl | rfl | rfl | rfl <;> rfl
    · exact ih u h

/-- A row of the call's own stays while what is below stays. -/
theorem own_below {w w' : World} {B e size n : Nat} {v : Value} {xs : List Value} (h : w.ownsRow B e size v n xs) (hb : Below w.heap.size w w') : w'.ownsRow B e size v n xs :=
  h.kept (row := none) ⟨hb.os, hb.tape, hb.output, hb.size, fun k hk _ => hb.block k hk⟩ (by cases v.ownBlock <;> simp)

theorem RowRd.of_owns {w : World} {base t : Nat} {v : Value} {n : Nat} {l : List RC} (h : w.ownsRow base t 8 v n (flat l)) : RowRd w v l := by
  have hn : l.length = n := by have := h.1; rw [flat_length] at this; omega
  have hlt := h.lt
  rcases h.2 with ⟨rfl, h2⟩ | ⟨g, cap, cur, rfl, h2, h3, h4, h5, h6, h7⟩
  · obtain rfl := List.eq_nil_of_length_eq_zero (hn.trans h2)
    exact ⟨none, 0, rfl, Nat.le_refl _, fun h => absurd rfl h⟩
  · refine ⟨_, cap, by rw [hn], by omega, fun _ => ⟨g, 0, rfl, (hlt g rfl).2, fun i c hi j u hj => ?_⟩⟩
    have := h.cells (g := g) rfl (i * 8 + j) u (flat_at l i c j u hi hj)
    have e : (⟨g, 0, none⟩ : Addr).add (i * 8 + j) = ⟨g, 0 + i * 8 + j, none⟩ := by unfold Addr.add; split <;> simp_all <;> omega
    rwa [e] at this

theorem RowRd.cap_le {w : World} {a : Option Addr} {n cap : Nat} {l : List RC} (h : RowRd w (.slice a n cap) l) : l.length ≤ cap := by
  obtain ⟨a', cap', h1, h2, _⟩ := h
  cases h1
  exact h2
/-- The cells of a part of a row that is read. -/
theorem RowRd.part {w : World} {n cap : Nat} {l : List RC} {b o : Nat} (h : RowRd w (.slice (some ⟨b, o, none⟩) n cap) l) (p q : Nat) (hq : p + q ≤ l.length) :
    ∀ j u, (flat ((l.drop p).take q))[j]? = some u → w.cell? ((⟨b, o + p * 8, none⟩ : Addr).add j) = some u := by
  obtain ⟨a', cap', h1, h2, h3⟩ := h
  cases h1
  intro j u hj
  have hlen : ((l.drop p).take q).length = q := by simp; omega
  have hjl : j < q * 8 := by
    rcases Nat.lt_or_ge j (q * 8) with h | h
    · exact h
    · rw [List.getElem?_eq_none (by rw [flat_length, hlen]; exact h)] at hj; cases hj
  obtain ⟨b', o', h4, h5, h6⟩ := h3 (fun e => by subst e; simp at hq; omega)
  cases h4
  have hi : j / 8 < q := by omega
  have hpi : p + j / 8 < l.length := by omega
  have hc : l[p + j / 8]? = some l[p + j / 8] := List.getElem?_eq_getElem hpi
  have hc' : ((l.drop p).take q)[j / 8]? = some l[p + j / 8] := by rw [List.getElem?_take, if_pos hi, List.getElem?_drop, hc]
  have h8lt : j % 8 < (l[p + j / 8]).cells.length := by rw [cells_length]; omega
  obtain ⟨u', hu'⟩ : ∃ u', (l[p + j / 8]).cells[j % 8]? = some u' := ⟨_, List.getElem?_eq_getElem h8lt⟩
  have h7 := flat_at _ _ _ _ _ hc' hu'
  rw [show j / 8 * 8 + j % 8 = j by omega, hj] at h7
  cases h7
  have h8 := h6 _ _ hc _ _ hu'
  have e : (⟨b, o + p * 8, none⟩ : Addr).add j = ⟨b, o + (p + j / 8) * 8 + j % 8, none⟩ := by
    unfold Addr.add
    split
    · subst j; simp
    · simp only [Addr.mk.injEq, true_and, and_true]; omega
  rw [e]
  exact h8
end Go.Proofs.Ytggecoekoilahaa
