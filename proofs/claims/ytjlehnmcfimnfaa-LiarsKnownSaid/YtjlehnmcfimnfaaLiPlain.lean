/-
  Nodes in order, each once, in plain words.
-/
import Derived.Test.YtjlehnmcfimnfaaLiBase
import Derived.Lib.SlicesCompact
namespace Go.Proofs.Ytjlehnmcfimnfaa
set_option linter.unusedVariables false

/-- Is one ahead of another one: the less often named first, then the lesser number. -/
def keyLt (c : Int → Nat) (a b : Int) : Prop := c a < c b ∨ (c a = c b ∧ a < b)
theorem keyLt_irrefl (c : Int → Nat) (a : Int) : ¬ keyLt c a a := by unfold keyLt; omega
theorem keyLt_trans {c : Int → Nat} {a b d : Int} (h : keyLt c a b) (k : keyLt c b d) : keyLt c a d := by unfold keyLt at *; omega
theorem keyLt_total (c : Int → Nat) (a b : Int) : keyLt c a b ∨ a = b ∨ keyLt c b a := by unfold keyLt; omega
instance (c : Int → Nat) (a b : Int) : Decidable (keyLt c a b) := by unfold keyLt; infer_instance

/-- Two rows in order with the same members are one. -/
theorem ord_unique (c : Int → Nat) : ∀ (R S : List Int), R.Pairwise (keyLt c) → S.Pairwise (keyLt c) → (∀ x, x ∈ R ↔ x ∈ S) → R = S
  | [], [], _, _, _ => rfl
  | [], s :: S, _, _, h => by have := (h s).2 List.mem_cons_self; cases this
  | r :: R, [], _, _, h => by have := (h r).1 List.mem_cons_self; cases this
  | r :: R, s :: S, hR, hS, h => by
    have hR' := List.pairwise_cons.1 hR
    have hS' := List.pairwise_cons.1 hS
    have e : r = s := by
      rcases List.mem_cons.1 ((h r).1 List.mem_cons_self) with e | h1
      · exact e
      · rcases List.mem_cons.1 ((h s).2 List.mem_cons_self) with e | h2
        · exact e.symm
        · exact absurd (keyLt_trans (hS'.1 r h1) (hR'.1 s h2)) (keyLt_irrefl c s)
    subst e
    congr 1
    refine ord_unique c R S hR'.2 hS'.2 fun x => ?_
    have := h x
    rw [List.mem_cons, List.mem_cons] at this
    constructor
    · intro hx
      rcases this.1 (.inr hx) with e | h1
      · subst e; exact absurd (hR'.1 x hx) (keyLt_irrefl c x)
      · exact h1
    · intro hx
      rcases this.2 (.inr hx) with e | h1
      · subst e; exact absurd (hS'.1 x hx) (keyLt_irrefl c x)
      · exact h1

/-- The nodes of a row in order. -/
structure OrdOf (n : Nat) (C : Nat → Nat) (l R : List Int) : Prop where
  sorted : R.Pairwise (keyLt (cntN n C))
  mem : ∀ x, x ∈ R ↔ x ∈ l ∧ 0 ≤ x ∧ x < n
theorem OrdOf.unique {n : Nat} {C : Nat → Nat} {l R S : List Int} (h : OrdOf n C l R) (k : OrdOf n C l S) : R = S :=
  ord_unique _ R S h.sorted k.sorted fun x => (h.mem x).trans (k.mem x).symm
theorem pairwise_nodup {c : Int → Nat} {R : List Int} (h : R.Pairwise (keyLt c)) : R.Nodup := h.imp fun {a b} hab e => by subst e; exact keyLt_irrefl c a hab
theorem OrdOf.len {n : Nat} {C : Nat → Nat} {l R : List Int} (h : OrdOf n C l R) : R.length ≤ n := by
  have h1 := pairwise_nodup h.sorted
  have h2 : (R.map Int.toNat).Nodup := by
    rw [List.nodup_iff_pairwise_ne, List.pairwise_map]
    refine List.Pairwise.imp_of_mem ?_ h1
    intro a b ha hb hne e
    have := (h.mem a).1 ha
    have := (h.mem b).1 hb
    exact hne (by omega)
  have h3 := nodup_lt n (R.map Int.toNat) h2 (fun x hx => by
    obtain ⟨y, hy, rfl⟩ := List.mem_map.1 hx
    have := (h.mem y).1 hy
    omega)
  simpa using h3

/-- What the compaction of a sorted row is. -/
theorem compact_upto (c : Int → Nat) (zs : List Int) (hs : ∀ (i j : Nat) (a b : Int), i < j → zs[i]? = some a → zs[j]? = some b → ¬ keyLt c b a) : ∀ m, m ≤ zs.length →
    (Lib.compactUpTo zs.toArray m).Pairwise (keyLt c) ∧ (∀ x, x ∈ Lib.compactUpTo zs.toArray m ↔ x ∈ zs.take m) ∧ (∀ x ∈ Lib.compactUpTo zs.toArray m, ∀ y, zs[m - 1]? = some y → m ≠ 0 → x = y ∨ keyLt c x y)
  | 0, _ => ⟨by simp [Lib.compactUpTo], by simp [Lib.compactUpTo], fun x hx => by simp [Lib.compactUpTo] at hx⟩
  | m + 1, hm => by
    obtain ⟨h1, h2, h3⟩ := compact_upto c zs hs m (by omega)
    have hml : m < zs.length := by omega
    have hx : zs[m]? = some zs[m] := List.getElem?_eq_getElem hml
    have hd : zs.toArray[m]! = zs[m] := by rw [getElem!_pos zs.toArray m (by simpa using hml)]; simp
    have htk : zs.take (m + 1) = zs.take m ++ [zs[m]] := by rw [List.take_add_one, hx]; rfl
    rw [Lib.compactUpTo_succ, hd]
    by_cases hk : Lib.keeps zs.toArray m = true
    · rw [if_pos hk]
      have hlt : ∀ x ∈ Lib.compactUpTo zs.toArray m, keyLt c x zs[m] := by
        intro x hxm
        have hm0 : m ≠ 0 := by
          intro e
          subst e
          simp [Lib.compactUpTo] at hxm
        have hp : zs[m - 1]? = some zs[m - 1] := List.getElem?_eq_getElem (by omega)
        have hne : zs[m] ≠ zs[m - 1] := by
          unfold Lib.keeps at hk
          rw [hd, getElem!_pos zs.toArray (m - 1) (by simp; omega)] at hk
          simp only [decide_eq_true_eq] at hk
          rcases hk with h | h
          · exact absurd h hm0
          · simpa using h
        have hle : ¬ keyLt c zs[m] zs[m - 1] := hs (m - 1) m _ _ (by omega) hp hx
        have hstep : keyLt c zs[m - 1] zs[m] := by
          rcases keyLt_total c zs[m - 1] zs[m] with h | h | h
          · exact h
          · exact absurd h.symm hne
          · exact absurd h hle
        rcases h3 x hxm _ hp hm0 with h | h
        · rw [h]; exact hstep
        · exact keyLt_trans h hstep
      refine ⟨List.pairwise_append.2 ⟨h1, by simp, fun x hxm y hy => ?_⟩, fun x => ?_, fun x hxm y hy _ => ?_⟩
      · rw [List.mem_singleton.1 hy]; exact hlt x hxm
      · rw [List.mem_append, h2, htk, List.mem_append]
      · rw [Nat.add_sub_cancel, hx] at hy
        cases hy
        rcases List.mem_append.1 hxm with h | h
        · exact .inr (hlt x h)
        · exact .inl (List.mem_singleton.1 h)
    · rw [if_neg hk, List.append_nil]
      have hm0 : m ≠ 0 := fun e => hk (by subst e; simp [Lib.keeps])
      have hp : zs[m - 1]? = some zs[m - 1] := List.getElem?_eq_getElem (by omega)
      have heq : zs[m] = zs[m - 1] := by
        unfold Lib.keeps at hk
        rw [hd, getElem!_pos zs.toArray (m - 1) (by simp; omega)] at hk
        simp only [decide_eq_true_eq, not_or, Decidable.not_not] at hk
        simpa using hk.2
      refine ⟨h1, fun x => ?_, fun x hxm y hy _ => ?_⟩
      · rw [h2, htk, List.mem_append]
        constructor
        · exact .inl
        · rintro (h | h)
          · exact h
          · rw [List.mem_singleton.1 h, heq]
            exact List.mem_take_iff_getElem.2 ⟨m - 1, by omega, rfl⟩
      · rw [Nat.add_sub_cancel, hx] at hy
        cases hy
        rw [heq]
        exact h3 x hxm _ hp hm0
theorem ord_of_sorted (n : Nat) (C : Nat → Nat) (l zs : List Int) (hs : ∀ (i j : Nat) (a b : Int), i < j → zs[i]? = some a → zs[j]? = some b → ¬ keyLt (cntN n C) b a) (hp : zs.Perm (l.filter fun x => isN n x)) : OrdOf n C l (Lib.compact zs) := by
  obtain ⟨h1, h2, _⟩ := compact_upto (cntN n C) zs hs zs.length (Nat.le_refl _)
  refine ⟨h1, fun x => ?_⟩
  unfold Lib.compact
  rw [h2, List.take_length, hp.mem_iff, List.mem_filter, isN_iff]

/-! The reference's way: the least of those that are left. -/
/-- The better one of what was found and a number. -/
def bestS (n : Nat) (C : Nat → Nat) (L : List Int) (b x : Int) : Int :=
  if isN n x = false ∨ x ∈ L then b else if b < 0 ∨ keyLt (cntN n C) x b then x else b
def bestF (n : Nat) (C : Nat → Nat) (L l : List Int) : Int := l.foldl (bestS n C L) (-1)
theorem bestF_take (n : Nat) (C : Nat → Nat) (L l : List Int) (I : Nat) (x : Int) (h : l[I]? = some x) : bestF n C L (l.take (I + 1)) = bestS n C L (bestF n C L (l.take I)) x := by
  unfold bestF
  rw [List.take_add_one, h]
  simp
theorem snoc_ind {α : Type} {P : List α → Prop} (h0 : P []) (h1 : ∀ l x, P l → P (l ++ [x])) (l : List α) : P l := by
  have h : ∀ r : List α, P r.reverse := by
    intro r
    induction r with
    | nil => exact h0
    | cons x r ih => rw [List.reverse_cons]; exact h1 _ _ ih
  have := h l.reverse
  rwa [List.reverse_reverse] at this
/-- What the best one is. -/
theorem best_spec (n : Nat) (C : Nat → Nat) (L : List Int) : ∀ (l : List Int), (bestF n C L l = -1 ∧ ∀ x ∈ l, isN n x = true → x ∈ L) ∨
    (isN n (bestF n C L l) = true ∧ bestF n C L l ∈ l ∧ bestF n C L l ∉ L ∧ ∀ x ∈ l, isN n x = true → x ∉ L → x = bestF n C L l ∨ keyLt (cntN n C) (bestF n C L l) x) := by
  intro l
  refine snoc_ind (P := fun l => (bestF n C L l = -1 ∧ ∀ x ∈ l, isN n x = true → x ∈ L) ∨
    (isN n (bestF n C L l) = true ∧ bestF n C L l ∈ l ∧ bestF n C L l ∉ L ∧ ∀ x ∈ l, isN n x = true → x ∉ L → x = bestF n C L l ∨ keyLt (cntN n C) (bestF n C L l) x)) (.inl ⟨rfl, by simp⟩) (fun l x ih => ?_) l
  · have hb : bestF n C L (l ++ [x]) = bestS n C L (bestF n C L l) x := by simp [bestF]
    rw [hb]
    generalize bestF n C L l = b at ih
    unfold bestS
    by_cases h1 : isN n x = false ∨ x ∈ L
    · rw [if_pos h1]
      have hx : ∀ y, y ∈ l ++ [x] → isN n y = true → y ∉ L → y ∈ l := by
        intro y hy hv hn
        rcases List.mem_append.1 hy with h | h
        · exact h
        · rw [List.mem_singleton.1 h] at hv hn
          rcases h1 with h1 | h1
          · rw [h1] at hv; cases hv
          · exact absurd h1 hn
      rcases ih with ⟨e, ih⟩ | ⟨i1, i2, i3, i4⟩
      · refine .inl ⟨e, fun y hy hv => ?_⟩
        by_cases hL : y ∈ L
        · exact hL
        · exact ih y (hx y hy hv hL) hv
      · exact .inr ⟨i1, List.mem_append_left _ i2, i3, fun y hy hv hn => i4 y (hx y hy hv hn) hv hn⟩
    · rw [if_neg h1]
      simp only [not_or, Bool.not_eq_false] at h1
      rcases ih with ⟨e, ih⟩ | ⟨i1, i2, i3, i4⟩
      · subst e
        rw [if_pos (.inl (by omega))]
        refine .inr ⟨h1.1, by simp, h1.2, fun y hy hv hn => ?_⟩
        rcases List.mem_append.1 hy with h | h
        · exact absurd (ih y h hv) hn
        · exact .inl (List.mem_singleton.1 h)
      · have hb0 := (isN_iff n b).1 i1
        by_cases h2 : b < 0 ∨ keyLt (cntN n C) x b
        · rw [if_pos h2]
          have hlt : keyLt (cntN n C) x b := by
            rcases h2 with h | h
            · omega
            · exact h
          refine .inr ⟨h1.1, by simp, h1.2, fun y hy hv hn => ?_⟩
          rcases List.mem_append.1 hy with h | h
          · rcases i4 y h hv hn with e | h3
            · rw [e]; exact .inr hlt
            · exact .inr (keyLt_trans hlt h3)
          · exact .inl (List.mem_singleton.1 h)
        · rw [if_neg h2]
          refine .inr ⟨i1, List.mem_append_left _ i2, i3, fun y hy hv hn => ?_⟩
          rcases List.mem_append.1 hy with h | h
          · exact i4 y h hv hn
          · rw [List.mem_singleton.1 h]
            simp only [not_or] at h2
            rcases keyLt_total (cntN n C) x b with h3 | h3 | h3
            · exact absurd h3 h2.2
            · exact .inl h3
            · exact .inr h3

/-- What the row of the reference is on its way. -/
structure Found (n : Nat) (C : Nat → Nat) (l L : List Int) : Prop where
  sorted : L.Pairwise (keyLt (cntN n C))
  sub : ∀ x ∈ L, x ∈ l ∧ isN n x = true
  low : ∀ x ∈ l, isN n x = true → x ∉ L → ∀ y ∈ L, keyLt (cntN n C) y x
theorem Found.nil (n : Nat) (C : Nat → Nat) (l : List Int) : Found n C l [] := ⟨List.Pairwise.nil, by simp, by simp⟩
theorem Found.next {n : Nat} {C : Nat → Nat} {l L : List Int} (h : Found n C l L) (hb : ¬ bestF n C L l < 0) : Found n C l (L ++ [bestF n C L l]) := by
  rcases best_spec n C L l with ⟨e, _⟩ | ⟨i1, i2, i3, i4⟩
  · omega
  · refine ⟨List.pairwise_append.2 ⟨h.sorted, by simp, fun x hx y hy => ?_⟩, fun x hx => ?_, fun x hx hv hn y hy => ?_⟩
    · rw [List.mem_singleton.1 hy]
      exact h.low _ i2 i1 i3 x hx
    · rcases List.mem_append.1 hx with h1 | h1
      · exact h.sub x h1
      · rw [List.mem_singleton.1 h1]; exact ⟨i2, i1⟩
    · simp only [List.mem_append, List.mem_singleton, not_or] at hn
      rcases List.mem_append.1 hy with h1 | h1
      · exact h.low x hx hv hn.1 y h1
      · rw [List.mem_singleton.1 h1]
        rcases i4 x hx hv hn.1 with e | h2
        · exact absurd e hn.2
        · exact h2
theorem Found.done {n : Nat} {C : Nat → Nat} {l L : List Int} (h : Found n C l L) (hb : bestF n C L l < 0) : OrdOf n C l L := by
  rcases best_spec n C L l with ⟨_, h1⟩ | ⟨i1, _⟩
  · refine ⟨h.sorted, fun x => ⟨fun hx => ?_, fun ⟨hx, hv⟩ => h1 x hx ((isN_iff n x).2 hv)⟩⟩
    have := h.sub x hx
    exact ⟨this.1, (isN_iff n x).1 this.2⟩
  · have := (isN_iff n _).1 i1
    omega
theorem Found.full {n : Nat} {C : Nat → Nat} {l L : List Int} (h : Found n C l L) (hl : L.length = n) : OrdOf n C l L := by
  refine ⟨h.sorted, fun x => ⟨fun hx => ?_, fun ⟨hx, hv⟩ => ?_⟩⟩
  · have := h.sub x hx
    exact ⟨this.1, (isN_iff n x).1 this.2⟩
  · by_cases hL : x ∈ L
    · exact hL
    · exfalso
      have h1 : ∀ y ∈ x :: L, 0 ≤ y ∧ y < n := by
        intro y hy
        rcases List.mem_cons.1 hy with rfl | hy
        · exact hv
        · exact (isN_iff n y).1 (h.sub y hy).2
      have h2 : (x :: L).Nodup := List.nodup_cons.2 ⟨hL, pairwise_nodup h.sorted⟩
      have h3 : ((x :: L).map Int.toNat).Nodup := by
        rw [List.nodup_iff_pairwise_ne, List.pairwise_map]
        refine List.Pairwise.imp_of_mem ?_ h2
        intro a b ha hb hne e
        have := h1 a ha
        have := h1 b hb
        exact hne (by omega)
      have h4 := nodup_lt n ((x :: L).map Int.toNat) h3 (fun y hy => by
        obtain ⟨z, hz, rfl⟩ := List.mem_map.1 hy
        have := h1 z hz
        omega)
      simp at h4
      omega
theorem Found.len {n : Nat} {C : Nat → Nat} {l L : List Int} (h : Found n C l L) : L.length ≤ n := by
  have h3 : (L.map Int.toNat).Nodup := by
    rw [List.nodup_iff_pairwise_ne, List.pairwise_map]
    refine List.Pairwise.imp_of_mem ?_ (pairwise_nodup h.sorted)
    intro a b ha hb hne e
    have := (isN_iff n a).1 (h.sub a ha).2
    have := (isN_iff n b).1 (h.sub b hb).2
    exact hne (by omega)
  have h4 := nodup_lt n (L.map Int.toNat) h3 (fun y hy => by
    obtain ⟨z, hz, rfl⟩ := List.mem_map.1 hy
    have := (isN_iff n z).1 (h.sub z hz).2
    omega)
  simpa using h4
end Go.Proofs.Ytjlehnmcfimnfaa
