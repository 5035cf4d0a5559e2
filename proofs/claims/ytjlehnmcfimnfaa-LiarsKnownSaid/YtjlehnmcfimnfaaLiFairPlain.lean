/-
  What the laws ask, in plain words.
-/
import Derived.Test.YtjlehnmcfimnfaaLiWorks
namespace Go.Proofs.Ytjlehnmcfimnfaa
set_option linter.unusedVariables false

def modI (k : Nat) (l : List Nat) : List Int := l.map fun x => ((x % k : Nat) : Int)
theorem modI_length (k : Nat) (l : List Nat) : (modI k l).length = l.length := by simp [modI]
theorem modI_take (k : Nat) (l : List Nat) (I : Nat) (x : Nat) (h : l[I]? = some x) : modI k (l.take (I + 1)) = modI k (l.take I) ++ [((x % k : Nat) : Int)] := by
  unfold modI
  rw [List.take_add_one, h]
  simp
theorem modI_mem {k : Nat} (hk : 0 < k) {l : List Nat} {x : Int} (h : x ∈ modI k l) : isN k x = true := by
  obtain ⟨y, _, rfl⟩ := List.mem_map.1 h
  rw [isN_iff]
  have := Nat.mod_lt y hk
  omega
def cz : Nat → Nat := fun _ => 0
theorem tellC_count (l : List Int) (j : Nat) (h : l.length ≤ 1000000) : tellC cz l j = l.countP fun x => x.toNat == j := by
  revert h
  refine snoc_ind (P := fun l => l.length ≤ 1000000 → tellC cz l j = l.countP fun x => x.toNat == j) (fun _ => rfl) (fun l x ih h => ?_) l
  rw [List.length_append] at h
  simp at h
  have ih := ih (by omega)
  rw [tellC_snoc, List.countP_append]
  have hle : (l.countP fun x => x.toNat == j) ≤ l.length := List.countP_le_length
  unfold tell1C
  by_cases e : j = x.toNat
  · subst e
    rw [if_pos rfl, ih]
    simp
    omega
  · rw [if_neg e, ih]
    have : ¬ x.toNat = j := fun e' => e e'.symm
    simp [this]
theorem tellC_perm {l m : List Int} (h : l.Perm m) (hl : l.length ≤ 1000000) : tellC cz l = tellC cz m := by
  funext j
  rw [tellC_count l j hl, tellC_count m j (by rw [← h.length_eq]; exact hl), h.countP_eq]
theorem sumN_bump : ∀ (n : Nat) (C : Nat → Nat) (k : Nat), k < n → sumN n (fun j => if j = k then C j + 1 else C j) = sumN n C + 1
  | 0, _, _, h => by omega
  | n + 1, C, k, h => by
    rw [sumN, sumN]
    by_cases e : k = n
    · subst e
      rw [if_pos rfl, sumN_congr k _ C (fun j hj => if_neg (by omega))]
      omega
    · rw [if_neg (by omega), sumN_bump n C k (by omega)]
      omega
theorem sumN_tell (n : Nat) (l : List Int) (hv : ∀ x ∈ l, isN n x = true) (hl : l.length ≤ 1000000) : sumN n (tellC cz l) = l.length := by
  revert hv hl
  refine snoc_ind (P := fun l => (∀ x ∈ l, isN n x = true) → l.length ≤ 1000000 → sumN n (tellC cz l) = l.length) (fun _ _ => sumN_zero n) (fun l x ih hv hl => ?_) l
  rw [List.length_append] at hl ⊢
  simp at hl
  have ih := ih (fun y hy => hv y (List.mem_append_left _ hy)) (by omega)
  have hx := (isN_iff n x).1 (hv x (by simp))
  rw [tellC_snoc]
  have hb : tellC cz l x.toNat ≤ l.length := by rw [tellC_count l _ (by omega)]; exact List.countP_le_length
  have e : tell1C (tellC cz l) x.toNat = fun j => if j = x.toNat then tellC cz l j + 1 else tellC cz l j := by
    funext j
    unfold tell1C
    by_cases e : j = x.toNat
    · subst e; simp; omega
    · simp [e]
  rw [e, sumN_bump n _ _ (by omega), ih]
  rfl
theorem turn_perm (l : List Int) (c : Nat) : (l.drop c ++ l.take c).Perm l := by
  refine List.perm_append_comm.trans ?_
  rw [List.take_append_drop]
theorem tlErr_ok {n : Nat} {l : List Int} (hv : ∀ x ∈ l, isN n x = true) : tlErr n l = 0 := by
  unfold tlErr
  rw [if_neg]
  intro h
  obtain ⟨x, hx, h2⟩ := List.any_eq_true.1 h
  rw [hv x hx] at h2
  cases h2
theorem tlC_ok {n : Nat} {C : Nat → Nat} {l : List Int} (hv : ∀ x ∈ l, isN n x = true) : tlC n C l = tellC C l := by
  unfold tlC
  rw [if_neg]
  intro h
  obtain ⟨x, hx, h2⟩ := List.any_eq_true.1 h
  rw [hv x hx] at h2
  cases h2

theorem ord_le {n : Nat} {C : Nat → Nat} {l R : List Int} (h : OrdOf n C l R) {i j : Nat} {x y : Int} (hij : i < j) (hx : R[i]? = some x) (hy : R[j]? = some y) : cntN n C x ≤ cntN n C y := by
  obtain ⟨hi, ex⟩ := List.getElem?_eq_some_iff.1 hx
  obtain ⟨hj, ey⟩ := List.getElem?_eq_some_iff.1 hy
  have := List.pairwise_iff_getElem.1 h.sorted i j hi hj hij
  rw [ex, ey] at this
  unfold keyLt at this
  omega
def notOut (n : Nat) (C : Nat → Nat) (x : Int) : Bool := !decide (3 ≤ cntN n C x)
theorem good_out {n : Nat} {C : Nat → Nat} {l R : List Int} (h : OrdOf n C l R) {i : Nat} {x : Int} (hx : R[i]? = some x) (ho : 3 ≤ cntN n C x) : R.countP (notOut n C) ≤ i := by
  have e : R = R.take i ++ R.drop i := (List.take_append_drop i R).symm
  rw [e, List.countP_append]
  have h1 : (R.take i).countP (notOut n C) ≤ i := Nat.le_trans List.countP_le_length (by rw [List.length_take]; omega)
  have h2 : (R.drop i).countP (notOut n C) = 0 := by
    rw [List.countP_eq_zero]
    intro y hy
    obtain ⟨j, hj⟩ := List.getElem?_of_mem hy
    rw [List.getElem?_drop] at hj
    have h3 : 3 ≤ cntN n C y := by
      by_cases e : j = 0
      · subst e
        rw [Nat.add_zero, hx] at hj
        cases hj
        exact ho
      · have := ord_le h (i := i) (j := i + j) (by omega) hx hj
        omega
    unfold notOut
    simpa using h3
  omega
def isNamed (n : Nat) (C : Nat → Nat) (x : Int) : Bool := decide (0 < cntN n C x)
theorem named_zero {n : Nat} {C : Nat → Nat} {l R : List Int} (h : OrdOf n C l R) {m I : Nat} {x : Int} (hx : (R.take m)[I]? = some x) (hn : ((R.take m).take I).any (isNamed n C) = true) : cntN n C x ≠ 0 := by
  obtain ⟨y, hy, h2⟩ := List.any_eq_true.1 hn
  obtain ⟨j, hj⟩ := List.getElem?_of_mem hy
  rw [List.getElem?_take] at hj
  split at hj
  · rename_i hjI
    rw [List.getElem?_take] at hx hj
    split at hx
    · split at hj
      · have := ord_le h hjI hj hx
        unfold isNamed at h2
        simp at h2
        omega
      · cases hj
    · cases hx
  · cases hj
theorem any_take_next {l : List Int} {p : Int → Bool} {I : Nat} {x : Int} (hx : l[I]? = some x) : (l.take (I + 1)).any p = ((l.take I).any p || p x) := by
  rw [List.take_add_one, hx, List.any_append]
  simp
theorem countP_take_next {l : List Int} {p : Int → Bool} {I : Nat} {x : Int} (hx : l[I]? = some x) : (l.take (I + 1)).countP p = (l.take I).countP p + (if p x = true then 1 else 0) := by
  rw [List.take_add_one, hx, List.countP_append]
  simp [List.countP_cons]
end Go.Proofs.Ytjlehnmcfimnfaa
