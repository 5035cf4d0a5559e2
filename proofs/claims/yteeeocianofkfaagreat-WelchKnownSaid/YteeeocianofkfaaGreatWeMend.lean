/-
  Symbols made others: the plain laws.
-/
import Derived.Test.YteeeocianofkfaaGreatWeEnd
import Derived.Test.YteeeocianofkfaaGreatKit
namespace Go.Proofs.YteeeocianofkfaaGreat
open Go.RowKit Fld
set_option linter.unusedVariables false
set_option linter.unusedSimpArgs false

theorem filter_add (p q r : Nat → Bool) (h : ∀ i, p i = true → q i = true ∨ r i = true) : ∀ l : List Nat, (l.filter p).length ≤ (l.filter q).length + (l.filter r).length
  | [] => by simp
  | a :: l => by
    have ih := filter_add p q r h l
    have ha := h a
    simp only [List.filter_cons]
    cases hp : p a <;> cases hq : q a <;> cases hr : r a <;> simp [hp, hq, hr] at ha ⊢ <;> omega
theorem filter_eq_one (r : Nat) : ∀ L : Nat, ((List.range L).filter fun i => decide (i = r)).length ≤ if r < L then 1 else 0
  | 0 => by simp
  | L + 1 => by
    have ih := filter_eq_one r L
    rw [List.range_succ, List.filter_append, List.length_append]
    by_cases e : L = r
    · rw [if_neg (by omega)] at ih
      rw [if_pos (by omega), List.filter_cons_of_pos (by simp [e])]
      simp at ih ⊢
      exact ih
    · rw [List.filter_cons_of_neg (by simp [e])]
      by_cases h : r < L
      · rw [if_pos h] at ih
        rw [if_pos (by omega)]
        simpa using ih
      · rw [if_neg h] at ih
        rw [if_neg (by omega)]
        simpa using ih
/-- At how many places symbols are others. -/
noncomputable def cntD (g U : Nat → GF) (L : Nat) : Nat := ((List.range L).filter fun i => decide (g i ≠ U i)).length
theorem cntD_self (U : Nat → GF) (L : Nat) : cntD U U L = 0 := by
  unfold cntD
  rw [List.filter_eq_nil_iff.2 (by simp)]
  rfl
theorem cntD_congr {g g' U : Nat → GF} {L : Nat} (h : ∀ j, j < L → g j = g' j) : cntD g U L = cntD g' U L := by
  unfold cntD
  congr 1
  exact List.filter_congr fun i hi => by rw [h i (List.mem_range.1 hi)]
theorem cntD_set (g U : Nat → GF) (L r : Nat) (x : GF) : cntD (fun j => if j = r then x else g j) U L ≤ cntD g U L + 1 := by
  unfold cntD
  have h1 := filter_add (fun i => decide ((if i = r then x else g i) ≠ U i)) (fun i => decide (g i ≠ U i)) (fun i => decide (i = r)) (fun i hi => by
    by_cases e : i = r
    · exact .inr (decide_eq_true e)
    · simp only [if_neg e] at hi
      exact .inl hi) (List.range L)
  have h2 := filter_eq_one r L
  have h3 : (if r < L then 1 else 0) ≤ 1 := by by_cases h : r < L <;> simp [h]
  exact Nat.le_trans h1 (Nat.add_le_add_left (Nat.le_trans h2 h3) _)
/-- The places of others. -/
noncomputable def othL (ls : List Nat) (g U : Nat → GF) (n : Nat) : List Int := ((List.range n).filter fun i => decide (g i ≠ U i)).map fun i => ((ls.getD i 0 : Nat) : Int)
theorem othL_yes {ls : List Nat} {g U : Nat → GF} {n : Nat} (h : g n ≠ U n) : othL ls g U (n + 1) = othL ls g U n ++ [((ls.getD n 0 : Nat) : Int)] := by
  unfold othL
  rw [List.range_succ, List.filter_append, List.map_append, List.filter_cons_of_pos (p := fun i => decide (g i ≠ U i)) (decide_eq_true h)]
  rfl
theorem othL_no {ls : List Nat} {g U : Nat → GF} {n : Nat} (h : g n = U n) : othL ls g U (n + 1) = othL ls g U n := by
  unfold othL
  rw [List.range_succ, List.filter_append, List.map_append, List.filter_cons_of_neg (p := fun i => decide (g i ≠ U i)) (by rw [decide_eq_true_eq]; exact fun e => e h)]
  simp
theorem othL_len (ls : List Nat) (g U : Nat → GF) (n : Nat) : (othL ls g U n).length = cntD g U n := by
  unfold othL cntD
  rw [List.length_map]
theorem cntD_le (g U : Nat → GF) (n : Nat) : cntD g U n ≤ n := by
  unfold cntD
  have := List.length_filter_le (fun i => decide (g i ≠ U i)) (List.range n)
  rwa [List.length_range] at this
theorem ints_get {ls : List Nat} {i : Nat} (h : i < ls.length) : (intsOf ls).getD i 0 = ((ls.getD i 0 : Nat) : Int) := by
  rw [intsOf, List.getD_eq_getElem?_getD, List.getElem?_map, List.getD_eq_getElem?_getD (l := ls), List.getElem?_eq_getElem h]
  rfl
theorem ints_at {ls : List Nat} {i : Nat} (h : i < ls.length) : (intsOf ls)[i]? = some ((ls.getD i 0 : Nat) : Int) := by
  rw [intsOf, List.getElem?_map, List.getD_eq_getElem?_getD (l := ls), List.getElem?_eq_getElem h]
  rfl
section
variable {xs M : List GF} {ls : List Nat} {g : Nat → GF} {L K : Nat}
theorem rise_get {N : Nat} (h : RiseTo N ls) {i : Nat} (hi : i < ls.length) : ls.getD i 0 < N := by
  rw [List.getD_eq_getElem?_getD, List.getElem?_eq_getElem hi]
  exact h.2 _ (List.getElem_mem _)
theorem rise_lt {N : Nat} (h : RiseTo N ls) {i j : Nat} (hij : i < j) (hj : j < ls.length) : ls.getD i 0 < ls.getD j 0 := by
  rw [List.getD_eq_getElem?_getD, List.getElem?_eq_getElem (by omega), List.getD_eq_getElem?_getD, List.getElem?_eq_getElem hj]
  exact List.pairwise_iff_getElem.1 h.1 i j (by omega) hj hij
theorem rise_good {N : Nat} (h : RiseTo N ls) : GoodP N (intsOf ls) := by
  refine ⟨fun x hx => ?_, nodup_of_inj' fun i j hi hj e => ?_⟩
  · obtain ⟨y, hy, rfl⟩ := List.mem_map.1 hx
    have := h.2 y hy
    omega
  · rw [intsOf_len] at hi hj
    rw [ints_get hi, ints_get hj] at e
    rcases Nat.lt_trichotomy i j with h1 | h1 | h1
    · have := rise_lt h h1 hj; omega
    · exact h1
    · have := rise_lt h h1 hi; omega
where
  nodup_of_inj' {l : List Int} (h : ∀ i j, i < l.length → j < l.length → l.getD i 0 = l.getD j 0 → i = j) : l.Nodup :=
    List.pairwise_iff_getElem.2 fun i j hi hj hij e => by
      have := h i j hi hj (by rw [List.getD_eq_getElem?_getD, List.getElem?_eq_getElem hi, List.getD_eq_getElem?_getD, List.getElem?_eq_getElem hj, e])
      omega
/-- Which symbols are wrong: the others. -/
theorem oth_wrS (hr : RiseTo xs.length ls) (hL : ls.length = L) : wrS xs (intsOf ls) (rowF g L) M = othL ls g (fun i => ev M (xs.getD (ls.getD i 0) 0)) L := by
  have e : wrP xs (intsOf ls) (rowF g L) M = othL ls g (fun i => ev M (xs.getD (ls.getD i 0) 0)) L := by
    unfold wrP wrI othL
    rw [pts_len, intsOf_len, hL]
    have e1 : ((List.range L).filter fun i => decide (ev M ((ptsOf xs (intsOf ls)).getD i 0) ≠ (rowF g L).getD i 0)) = (List.range L).filter fun i => decide (g i ≠ ev M (xs.getD (ls.getD i 0) 0)) := by
      refine List.filter_congr fun i hi => ?_
      have hi' := List.mem_range.1 hi
      rw [pts_get xs (by rw [intsOf_len]; omega), ints_get (by omega), Int.toNat_natCast, rowF_get _ hi', decide_eq_decide]
      exact ⟨fun h e => h e.symm, fun h e => h e.symm⟩
    rw [e1]
    refine List.map_congr_left fun i hi => ?_
    exact ints_get (by have := List.mem_range.1 (List.mem_filter.1 hi).1; omega)
  rw [wrS, e]
  refine riseI_self (List.pairwise_map.2 ((List.pairwise_lt_range.filter _).imp_of_mem fun {a b} ha hb hab => ?_))
  have := List.mem_range.1 (List.mem_filter.1 hb).1
  have := rise_lt hr hab (by omega)
  omega
theorem oth_tells {s : Nat} (hr : RiseTo xs.length ls) (hL : ls.length = L) (hM : M.length = K) (h : cntD g (fun i => ev M (xs.getD (ls.getD i 0) 0)) L ≤ s) : WeTells xs K (intsOf ls) (rowF g L) s (some M) :=
  ⟨hM, by rw [oth_wrS hr hL, othL_len]; exact h⟩
theorem oth_ok {s : Nat} (hr : RiseTo xs.length ls) (hL : ls.length = L) (hM : M.length = K) (h : cntD g (fun i => ev M (xs.getD (ls.getD i 0) 0)) L ≤ s) (hk : K + 2 * s ≤ L) : WeOk xs K (intsOf ls) (rowF g L) (s : Int) M :=
  ⟨⟨⟨rise_good hr, by rw [intsOf_len, rowF_len, hL]⟩, by omega⟩, by rw [intsOf_len, hL]; omega, by rw [Int.toNat_natCast]; exact oth_tells hr hL hM h⟩
end
/-- Rows of what is left. -/
theorem left_row (ls : List Nat) (g : Nat → GF) : rowF (fun j => g (ls.getD j 0)) ls.length = ls.map g := by
  refine List.ext_getElem (by simp [rowF]) fun i h1 h2 => ?_
  rw [rowF_len] at h1
  simp [rowF, List.getElem?_eq_getElem h1]
theorem left_oth (ls : List Nat) (g U : Nat → GF) : othL ls (fun j => g (ls.getD j 0)) (fun j => U (ls.getD j 0)) ls.length = intsOf (ls.filter fun i => decide (g i ≠ U i)) := by
  have e : ls = (List.range ls.length).map fun j => ls.getD j 0 := List.ext_getElem (by simp) fun i h1 h2 => by simp [List.getElem?_eq_getElem h1]
  unfold othL intsOf
  conv => rhs; rw [e, List.filter_map, List.map_map]
  rfl
end Go.Proofs.YteeeocianofkfaaGreat
