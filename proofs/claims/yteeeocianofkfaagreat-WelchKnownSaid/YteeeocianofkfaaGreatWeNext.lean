/-
  Rising rows of numbers, one behind the other: the plain laws.
-/
import Derived.Test.YteeeocianofkfaaGreatWePlain
namespace Go.Proofs.YteeeocianofkfaaGreat
open Go.RowKit Fld
set_option linter.unusedVariables false
set_option linter.unusedSimpArgs false

/-- A rising row of k numbers below n. -/
def Ris (k n : Nat) (r : Nat → Nat) : Prop := (∀ j, j < k → r j < n) ∧ ∀ i, i + 1 < k → r i < r (i + 1)
/-- The one stands ahead of the other. -/
def Lx (k : Nat) (r l : Nat → Nat) : Prop := ∃ i, i < k ∧ (∀ j, j < i → r j = l j) ∧ r i < l i
theorem ris_add {k n : Nat} {r : Nat → Nat} (h : Ris k n r) (i : Nat) : ∀ d, i + d < k → r i + d ≤ r (i + d)
  | 0, _ => Nat.le_refl _
  | d + 1, hd => by
    have h1 := ris_add h i d (by omega)
    have h2 := h.2 (i + d) (by omega)
    show r i + (d + 1) ≤ r (i + d + 1)
    omega
theorem ris_le {k n : Nat} {r : Nat → Nat} (h : Ris k n r) {j : Nat} (hj : j < k) : r j + (k - j) ≤ n := by
  have h1 := ris_add h j (k - 1 - j) (by omega)
  have h2 := h.1 (j + (k - 1 - j)) (by omega)
  omega
theorem ris_ge {k n : Nat} {r : Nat → Nat} (h : Ris k n r) {j : Nat} (hj : j < k) : j ≤ r j := by
  have h1 := ris_add h 0 j (by omega)
  rw [Nat.zero_add] at h1
  omega
theorem lx_or {k : Nat} {r l : Nat → Nat} : ∀ (d i : Nat), i + d = k → (∀ j, j < i → r j = l j) → (∀ j, i ≤ j → j < k → r j ≤ l j) → (∀ j, j < k → r j = l j) ∨ Lx k r l
  | 0, i, hk, h1, _ => .inl fun j hj => h1 j (by omega)
  | d + 1, i, hk, h1, h2 => by
    rcases Nat.lt_or_eq_of_le (h2 i (Nat.le_refl _) (by omega)) with h | h
    · exact .inr ⟨i, by omega, h1, h⟩
    · refine lx_or d (i + 1) (by omega) (fun j hj => ?_) (fun j hj hk => h2 j (by omega) hk)
      rcases Nat.lt_or_eq_of_le (Nat.le_of_lt_succ hj) with e | e
      · exact h1 j e
      · rw [e]; exact h
/-- The next row, at the last number that can grow. -/
def nxt (l : Nat → Nat) (i : Nat) : Nat → Nat := fun j => if j < i then l j else l i + 1 + (j - i)
theorem nxt_ris {k n i : Nat} {l : Nat → Nat} (h : Ris k n l) (hi : i < k) (hg : l i + (k - i) < n) : Ris k n (nxt l i) := by
  refine ⟨fun j hj => ?_, fun j hj => ?_⟩
  · unfold nxt
    by_cases e : j < i
    · rw [if_pos e]; exact h.1 j hj
    · rw [if_neg e]; omega
  · unfold nxt
    by_cases e : j + 1 < i
    · rw [if_pos (by omega), if_pos e]; exact h.2 j hj
    · rw [if_neg e]
      by_cases e2 : j < i
      · rw [if_pos e2]
        have h1 := h.2 j hj
        obtain rfl : i = j + 1 := by omega
        omega
      · rw [if_neg e2]; omega
theorem nxt_lx {k n i : Nat} {l : Nat → Nat} (hi : i < k) : Lx k l (nxt l i) := ⟨i, hi, fun j hj => by rw [nxt, if_pos hj], by rw [nxt, if_neg (Nat.lt_irrefl _)]; omega⟩
theorem nxt_next {k n i : Nat} {l r : Nat → Nat} (hi : i < k) (ht : ∀ j, i < j → j < k → n ≤ l j + (k - j)) (hr : Ris k n r) (hx : Lx k r (nxt l i)) : (∀ j, j < k → r j = l j) ∨ Lx k r l := by
  obtain ⟨p, hp, he, hlt⟩ := hx
  rcases Nat.lt_trichotomy p i with h | h | h
  · refine .inr ⟨p, hp, fun j hj => ?_, ?_⟩
    · rw [he j hj, nxt, if_pos (by omega)]
    · rwa [nxt, if_pos h] at hlt
  · subst h
    rw [nxt, if_neg (Nat.lt_irrefl _)] at hlt
    refine lx_or (k - p) p (by omega) (fun j hj => by rw [he j hj, nxt, if_pos hj]) fun j hj hk => ?_
    rcases Nat.lt_or_eq_of_le hj with e | e
    · have h1 := ht j e hk
      have h2 := ris_le hr hk
      omega
    · rw [← e]; omega
  · exfalso
    have h1 := ris_add hr i (p - i) (by omega)
    rw [show i + (p - i) = p by omega, he i h, nxt, if_neg (Nat.lt_irrefl _)] at h1
    rw [nxt, if_neg (by omega)] at hlt
    omega
theorem last_next {k n : Nat} {l r : Nat → Nat} (ht : ∀ j, j < k → n ≤ l j + (k - j)) (hr : Ris k n r) : (∀ j, j < k → r j = l j) ∨ Lx k r l :=
  lx_or k 0 (by omega) (fun j hj => by omega) fun j _ hk => by
    have h1 := ht j hk
    have h2 := ris_le hr hk
    omega
theorem first_none {k n : Nat} {r : Nat → Nat} (hr : Ris k n r) : ¬ Lx k r (fun j => j) := by
  rintro ⟨i, hi, -, h⟩
  have := ris_ge hr hi
  simp only [] at h
  omega
theorem first_ris {k n : Nat} (h : k ≤ n) : Ris k n (fun j => j) := ⟨fun j hj => by simp only []; omega, fun i hi => by simp only []; omega⟩
/-- The number of a row. -/
def encE (n : Nat) (l : Nat → Nat) : Nat → Nat
  | 0 => 0
  | k + 1 => encE n l k * n + l k
theorem encE_congr {n : Nat} {r l : Nat → Nat} : ∀ k, (∀ j, j < k → r j = l j) → encE n r k = encE n l k
  | 0, _ => rfl
  | k + 1, h => by rw [encE, encE, encE_congr k (fun j hj => h j (by omega)), h k (by omega)]
theorem encE_lt {n : Nat} {l : Nat → Nat} : ∀ k, (∀ j, j < k → l j < n) → encE n l k < n ^ k
  | 0, _ => by simp [encE]
  | k + 1, h => by
    have h1 := encE_lt k (fun j hj => h j (by omega))
    have h2 := h k (by omega)
    have h3 : (encE n l k + 1) * n ≤ n ^ k * n := Nat.mul_le_mul_right n h1
    rw [encE, Nat.pow_succ]
    rw [Nat.succ_mul] at h3
    omega
theorem encE_lx {n : Nat} {r l : Nat → Nat} : ∀ k, (∀ j, j < k → r j < n) → Lx k r l → encE n r k < encE n l k
  | 0, _, ⟨i, h, _⟩ => by omega
  | k + 1, hr, ⟨i, hi, he, hlt⟩ => by
    rw [encE, encE]
    by_cases e : i < k
    · have h1 := encE_lx k (fun j hj => hr j (by omega)) ⟨i, e, he, hlt⟩
      have h2 := hr k (by omega)
      have h3 : (encE n r k + 1) * n ≤ encE n l k * n := Nat.mul_le_mul_right n h1
      rw [Nat.succ_mul] at h3
      omega
    · obtain rfl : i = k := by omega
      rw [encE_congr i he]
      omega
/-- What the row is in the row's own cells. -/
def rowN (k : Nat) (l : Nat → Nat) : List Int := (List.range k).map fun j => ((l j : Nat) : Int)
theorem rowN_len (k : Nat) (l : Nat → Nat) : (rowN k l).length = k := by simp [rowN]
theorem rowN_get {k : Nat} {l : Nat → Nat} {j : Nat} (h : j < k) : (rowN k l)[j]? = some ((l j : Nat) : Int) := by
  rw [rowN, List.getElem?_map, List.getElem?_range h]
  rfl
/-- The right places of a message, as a rising row. -/
theorem ris_of_list {n : Nat} {ls : List Nat} {k : Nat} (hs : ls.Pairwise (· < ·)) (hb : ∀ i ∈ ls, i < n) (hk : k ≤ ls.length) : ∃ r, Ris k n r ∧ ∀ j, j < k → r j ∈ ls := by
  refine ⟨fun j => ls.getD j 0, ⟨fun j hj => ?_, fun i hi => ?_⟩, fun j hj => ?_⟩
  · simp only []
    rw [List.getD_eq_getElem?_getD, List.getElem?_eq_getElem (by omega)]
    exact hb _ (List.getElem_mem _)
  · simp only []
    rw [List.getD_eq_getElem?_getD, List.getElem?_eq_getElem (by omega), List.getD_eq_getElem?_getD, List.getElem?_eq_getElem (by omega)]
    exact List.pairwise_iff_getElem.1 hs i (i + 1) (by omega) (by omega) (by omega)
  · simp only []
    rw [List.getD_eq_getElem?_getD, List.getElem?_eq_getElem (by omega)]
    exact List.getElem_mem _
theorem right_ris {X ys m : List GF} {k t : Nat} (hv : (wrI X ys m).length ≤ t) (hk : k + t ≤ X.length) : ∃ r, Ris k X.length r ∧ ∀ j, j < k → ev m (X.getD (r j) 0) = ys.getD (r j) 0 := by
  have h2 := two_parts (fun i => decide (ev m (X.getD i 0) ≠ ys.getD i 0)) (List.range X.length)
  rw [List.length_range] at h2
  have e : (wrI X ys m).length = ((List.range X.length).filter fun i => decide (ev m (X.getD i 0) ≠ ys.getD i 0)).length := rfl
  obtain ⟨r, h3, h4⟩ := ris_of_list (n := X.length) (k := k) (ls := (List.range X.length).filter fun i => !decide (ev m (X.getD i 0) ≠ ys.getD i 0)) (List.pairwise_lt_range.filter _) (fun i hi => List.mem_range.1 (List.mem_filter.1 hi).1) (by omega)
  exact ⟨r, h3, fun j hj => by simpa using (List.mem_filter.1 (h4 j hj)).2⟩
end Go.Proofs.YteeeocianofkfaaGreat
