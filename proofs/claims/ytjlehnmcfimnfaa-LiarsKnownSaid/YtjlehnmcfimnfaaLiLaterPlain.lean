/-
  What LiarsLater asks, in plain words.
-/
import Derived.Test.YtjlehnmcfimnfaaLiFairPlain
namespace Go.Proofs.Ytjlehnmcfimnfaa
set_option linter.unusedVariables false

/-- Where a number stands in a row in order: behind those that are ahead of it. -/
theorem ord_at {n : Nat} {C : Nat → Nat} {l R : List Int} (h : OrdOf n C l R) {i : Nat} {x : Int} (hx : R[i]? = some x) : R.countP (fun y => decide (keyLt (cntN n C) y x)) = i := by
  obtain ⟨hi, ex⟩ := List.getElem?_eq_some_iff.1 hx
  have e : R = R.take i ++ R.drop i := (List.take_append_drop i R).symm
  have h1 : (R.take i).countP (fun y => decide (keyLt (cntN n C) y x)) = i := by
    have : (R.take i).countP (fun y => decide (keyLt (cntN n C) y x)) = (R.take i).length := by
      rw [List.countP_eq_length]
      intro y hy
      obtain ⟨j, hj⟩ := List.getElem?_of_mem hy
      rw [List.getElem?_take] at hj
      split at hj
      · rename_i hji
        obtain ⟨hj', ey⟩ := List.getElem?_eq_some_iff.1 hj
        have := List.pairwise_iff_getElem.1 h.sorted j i hj' hi hji
        rw [ex, ey] at this
        simpa using this
      · cases hj
    rw [this, List.length_take]
    omega
  have h2 : (R.drop i).countP (fun y => decide (keyLt (cntN n C) y x)) = 0 := by
    rw [List.countP_eq_zero]
    intro y hy
    obtain ⟨j, hj⟩ := List.getElem?_of_mem hy
    rw [List.getElem?_drop] at hj
    obtain ⟨hj', ey⟩ := List.getElem?_eq_some_iff.1 hj
    have h3 : ¬ keyLt (cntN n C) y x := by
      by_cases e : j = 0
      · subst e
        have : R[i + 0]? = some x := hx
        rw [this] at hj
        cases hj
        exact keyLt_irrefl _ _
      · have := List.pairwise_iff_getElem.1 h.sorted i (i + j) hi hj' (by omega)
        rw [ex, ey] at this
        exact fun k => keyLt_irrefl _ _ (keyLt_trans this k)
    simpa using h3
  rw [e, List.countP_append, h1, h2, Nat.add_zero]
theorem ord_perm {n : Nat} {C D : Nat → Nat} {l R S : List Int} (h : OrdOf n C l R) (k : OrdOf n D l S) : R.Perm S :=
  (List.perm_ext_iff_of_nodup (pairwise_nodup h.sorted) (pairwise_nodup k.sorted)).2 fun x => (h.mem x).trans (k.mem x).symm
/-- Two counts that differ at one number at most. -/
def OnlyAt (n : Nat) (C D : Nat → Nat) (x : Int) : Prop := ∀ y, y ≠ x → cntN n C y = cntN n D y
theorem ord_rest {n : Nat} {C D : Nat → Nat} {l R S : List Int} {x : Int} (h : OrdOf n C l R) (k : OrdOf n D l S) (ho : OnlyAt n C D x) : R.filter (fun y => !(y == x)) = S.filter (fun y => !(y == x)) := by
  refine ord_unique (cntN n C) _ _ (h.sorted.filter _) ?_ (fun y => ?_)
  · refine List.Pairwise.imp_of_mem ?_ (k.sorted.filter _)
    intro a b ha hb hab
    have ha' : a ≠ x := by have := (List.mem_filter.1 ha).2; simpa using this
    have hb' : b ≠ x := by have := (List.mem_filter.1 hb).2; simpa using this
    unfold keyLt at *
    rw [ho a ha', ho b hb']
    exact hab
  · rw [List.mem_filter, List.mem_filter, h.mem, k.mem]
theorem ord_later {n : Nat} {C D : Nat → Nat} {l R S : List Int} {x : Int} (h : OrdOf n C l R) (k : OrdOf n D l S) (ho : OnlyAt n C D x) (hle : cntN n C x ≤ cntN n D x) {i j : Nat} (hi : R[i]? = some x) (hj : S[j]? = some x) : i ≤ j := by
  rw [← ord_at h hi, ← ord_at k hj, ← (ord_perm h k).countP_eq]
  refine List.countP_mono_left fun y _ hy => ?_
  simp only [decide_eq_true_eq] at *
  by_cases e : y = x
  · subst e; exact absurd hy (keyLt_irrefl _ _)
  · unfold keyLt at *
    rw [← ho y e]
    omega
/-- All nodes. -/
def upN (k : Nat) : List Int := (List.range k).map fun i : Nat => (i : Int)
theorem upN_length (k : Nat) : (upN k).length = k := by simp [upN]
theorem upN_succ (k : Nat) : upN (k + 1) = upN k ++ [(k : Int)] := by simp [upN, List.range_succ]
theorem upN_mem {k : Nat} {x : Int} (h : 0 ≤ x ∧ x < k) : x ∈ upN k := List.mem_map.2 ⟨x.toNat, List.mem_range.2 (by omega), by omega⟩
theorem ord_full {k : Nat} {C : Nat → Nat} {R : List Int} (h : OrdOf k C (upN k) R) : R.length = k := by
  have h1 := h.len
  have h2 : (upN k).Nodup := by
    unfold upN
    rw [List.nodup_iff_pairwise_ne, List.pairwise_map]
    exact List.Pairwise.imp (fun {a b} hab e => hab (by omega)) (List.nodup_iff_pairwise_ne.1 List.nodup_range)
  have h3 : (upN k).Perm R := (List.perm_ext_iff_of_nodup h2 (pairwise_nodup h.sorted)).2 fun x => by
    rw [h.mem]
    constructor
    · intro hx
      obtain ⟨i, hi, rfl⟩ := List.mem_map.1 hx
      have := List.mem_range.1 hi
      exact ⟨hx, by omega, by omega⟩
    · exact fun hx => hx.1
  rw [← h3.length_eq, upN_length]
theorem filter_take_ne {l : List Int} {x : Int} {I : Nat} {y : Int} (hy : l[I]? = some y) : (l.take (I + 1)).filter (fun y => !(y == x)) = (l.take I).filter (fun y => !(y == x)) ++ (if y = x then [] else [y]) := by
  rw [List.take_add_one, hy, List.filter_append]
  congr 1
  by_cases e : y = x <;> simp [e]
theorem only_forget (n : Nat) (C : Nat → Nat) (k : Nat) : OnlyAt n C (fun j => if j = k then 0 else C j) (k : Nat) := fun y hy => by
  unfold cntN
  by_cases h : 0 ≤ y ∧ y < n
  · rw [if_pos h, if_pos h]
    show C y.toNat = if y.toNat = k then 0 else C y.toNat
    rw [if_neg (by omega)]
  · rw [if_neg h, if_neg h]
theorem only_tell (n : Nat) (C : Nat → Nat) (k : Nat) : OnlyAt n C (tell1C C k) (k : Nat) := fun y hy => by
  unfold cntN tell1C
  by_cases h : 0 ≤ y ∧ y < n
  · rw [if_pos h, if_pos h, if_neg (by omega)]
  · rw [if_neg h, if_neg h]
end Go.Proofs.Ytjlehnmcfimnfaa
