/-
  Polynomials by definition: trimmed ones, and what tells that one passes through some values.
-/
import Derived.Test.YteeeocianofkfaaGreatAnyPlain
namespace Go.Proofs.YteeeocianofkfaaGreat
open Go.RowKit Fld
set_option linter.unusedVariables false
set_option linter.unusedSimpArgs false

/-- No nought behind. -/
def Trimd (l : List GF) : Prop := l = [] ∨ l.getD (l.length - 1) 0 ≠ 0
/-- One row without the noughts behind. -/
def TrimOf (l p : List GF) : Prop := ∃ n, n ≤ l.length ∧ p = l.take n ∧ Trimd p ∧ ∀ j, n ≤ j → l.getD j 0 = 0
theorem TrimOf.ev {l p : List GF} (h : TrimOf l p) (x : GF) : ev p x = ev l x := by
  obtain ⟨n, hn, rfl, _, h2⟩ := h
  conv => rhs; rw [← List.take_append_drop n l, ev_append]
  rw [ev_zeros (p := l.drop n), mzero, addz]
  intro c hc
  obtain ⟨i, hi, rfl⟩ := List.mem_iff_getElem.1 hc
  have := h2 (n + i) (by omega)
  rw [List.getElem_drop]
  rw [List.length_drop] at hi
  rwa [List.getD_eq_getElem?_getD, List.getElem?_eq_getElem (by omega), Option.getD_some] at this
theorem TrimOf.len {l p : List GF} (h : TrimOf l p) : p.length ≤ l.length := by
  obtain ⟨n, hn, rfl, _⟩ := h
  rw [List.length_take]
  omega
theorem TrimOf.trimd {l p : List GF} (h : TrimOf l p) : Trimd p := by
  obtain ⟨n, hn, rfl, h1, _⟩ := h
  exact h1
theorem trimd_take {l : List GF} {n : Nat} (hn : n ≤ l.length) (h : n = 0 ∨ l.getD (n - 1) 0 ≠ 0) : Trimd (l.take n) := by
  rcases h with rfl | h
  · exact .inl (by simp)
  · by_cases h0 : n = 0
    · subst h0
      exact .inl (by simp)
    · refine .inr ?_
      rw [List.length_take, Nat.min_eq_left hn, List.getD_eq_getElem?_getD, List.getElem?_take, if_pos (by omega), ← List.getD_eq_getElem?_getD]
      exact h
theorem rowF_ev (f : Nat → GF) (n : Nat) (x : GF) : ev (rowF f n) x = sm n (fun i => f i * pw x i) := by
  rw [ev_sm, rowF_len]
  exact sm_congr fun i hi => by rw [rowF_get f hi]
theorem ev_wide (l : List GF) {n : Nat} (hn : l.length ≤ n) (x : GF) : ev l x = sm n (fun i => l.getD i 0 * pw x i) := by
  obtain ⟨k, rfl⟩ : ∃ k, n = l.length + k := ⟨n - l.length, by omega⟩
  rw [ev_sm, sm_split, sm_0 (n := k), addz]
  intro i _
  rw [List.getD_eq_getElem?_getD, List.getElem?_eq_none (by omega)]
  exact zmul _
/-- The sum of two rows. -/
noncomputable def sumF (l m : List GF) : Nat → GF := fun i => l.getD i 0 + m.getD i 0
theorem sumF_ev (l m : List GF) {n : Nat} (h1 : l.length ≤ n) (h2 : m.length ≤ n) (x : GF) : ev (rowF (sumF l m) n) x = ev l x + ev m x := by
  rw [rowF_ev, ev_wide l h1, ev_wide m h2, ← sm_add]
  exact sm_congr fun i _ => dam _ _ _
/-- A row times a number, so many places higher. -/
theorem shift_ev (i : Nat) (c : GF) (m : List GF) (x : GF) : ev (List.replicate i (0 : GF) ++ rowF (fun k => c * m.getD k 0) m.length) x = pw x i * (c * ev m x) := by
  rw [ev_append, ev_zeros (p := List.replicate i (0 : GF)) (fun c hc => (List.mem_replicate.1 hc).2), zadd, List.length_replicate, rowF_ev, ev_sm m]
  congr 1
  rw [← sm_mul]
  exact sm_congr fun k _ => Fld.mulA _ _ _
theorem take_ev (l : List GF) {I : Nat} (h : I < l.length) (x : GF) : ev (l.take (I + 1)) x = ev (l.take I) x + pw x I * l.getD I 0 := by
  rw [List.take_succ_eq_append_getElem h, ev_append, List.length_take, Nat.min_eq_left (by omega), ev_cons, ev_nil, mzero, addz, List.getD_eq_getElem?_getD, List.getElem?_eq_getElem h]
  rfl
/-- A product of differences. -/
noncomputable def prodN (f : Nat → GF) (y : GF) : Nat → GF
  | 0 => 1
  | n + 1 => prodN f y n * (f n + y)
theorem prodN_eq0 (f : Nat → GF) (y : GF) : ∀ n, prodN f y n = 0 ↔ ∃ j, j < n ∧ f j = y
  | 0 => by simp [prodN, one_ne0]
  | n + 1 => by
    rw [prodN]
    constructor
    · intro h
      rcases mul_eq0 h with h | h
      · obtain ⟨j, h1, h2⟩ := (prodN_eq0 f y n).1 h
        exact ⟨j, by omega, h2⟩
      · exact ⟨n, by omega, add_eq0 h⟩
    · rintro ⟨j, h1, h2⟩
      by_cases e : j = n
      · subst e
        rw [h2, adds, mzero]
      · rw [(prodN_eq0 f y n).2 ⟨j, by omega, h2⟩, zmul]
theorem ev_two (x y : GF) : ev [x, 1] y = x + y := by
  rw [ev_cons, ev_cons, ev_nil, mzero, addz, mone]
theorem ev_one1 (c y : GF) : ev [c] y = c := by rw [ev_cons, ev_nil, mzero, addz]
/-- A polynomial through values: the one that is as short as may be. -/
def Thru (xs ys p : List GF) : Prop := Trimd p ∧ p.length ≤ xs.length ∧ ∀ j, j < xs.length → ev p (xs.getD j 0) = ys.getD j 0
/-- A row with noughts behind. -/
noncomputable def padTo (p : List GF) (k : Nat) : List GF := p ++ List.replicate (k - p.length) 0
theorem padTo_len (p : List GF) {k : Nat} (h : p.length ≤ k) : (padTo p k).length = k := by simp [padTo]; omega
theorem padTo_ev (p : List GF) (k : Nat) (x : GF) : ev (padTo p k) x = ev p x := by
  rw [padTo, ev_append, ev_zeros (p := List.replicate _ (0 : GF)) (fun c hc => (List.mem_replicate.1 hc).2), mzero, addz]
theorem padTo_get (p : List GF) (k j : Nat) : (padTo p k).getD j 0 = p.getD j 0 := by
  rw [padTo, List.getD_eq_getElem?_getD, List.getD_eq_getElem?_getD]
  by_cases h : j < p.length
  · rw [List.getElem?_append_left h]
  · rw [List.getElem?_append_right (by omega), List.getElem?_eq_none (l := p) (by omega), List.getElem?_replicate]
    by_cases h2 : j - p.length < k - p.length
    · rw [if_pos h2]; rfl
    · rw [if_neg h2]
/-- It tells whether there is a message, and which. -/
theorem thru_tells {xs ys p : List GF} {ps : List Int} {k : Nat} (hn : xs.Nodup) (hg : GoodP xs.length ps) (hl : ps.length = ys.length) (hk : k ≤ ps.length) (h : Thru (ptsOf xs ps) ys p) :
    (p.length ≤ k → Fits xs k ps ys (padTo p k)) ∧ (k < p.length → ∀ m, ¬ Fits xs k ps ys m) := by
  obtain ⟨h1, h2, h3⟩ := h
  have hpl : (ptsOf xs ps).length = ps.length := by simp [ptsOf]
  rw [hpl] at h2 h3
  have hpt : ∀ j, j < ps.length → (ptsOf xs ps).getD j 0 = xs.getD (ps.getD j 0).toNat 0 := fun j hj => by
    rw [List.getD_eq_getElem?_getD, ptsOf, List.getElem?_map, List.getElem?_eq_getElem hj, List.getD_eq_getElem?_getD (l := ps), List.getElem?_eq_getElem hj]
    rfl
  refine ⟨fun hp => ⟨padTo_len p hp, fun i hi => by rw [padTo_ev, ← hpt i hi, h3 i hi]⟩, fun hp m hm => ?_⟩
  have e : padTo m ps.length = padTo p ps.length := by
    refine ev_inj (pts_nodup hn hg) (by rw [padTo_len _ (by rw [hm.1]; exact hk), padTo_len _ h2]) (by rw [padTo_len _ (by rw [hm.1]; exact hk), hpl]; exact Nat.le_refl _) fun z hz => ?_
    obtain ⟨j, hj, rfl⟩ := List.mem_iff_getElem.1 hz
    rw [hpl] at hj
    have e1 := hm.2 j hj
    have e2 := h3 j hj
    rw [List.getD_eq_getElem?_getD, List.getElem?_eq_getElem (by rw [hpl]; exact hj), Option.getD_some] at e2
    have e3 := hpt j hj
    rw [List.getD_eq_getElem?_getD, List.getElem?_eq_getElem (by rw [hpl]; exact hj), Option.getD_some] at e3
    rw [padTo_ev, padTo_ev, e2, ← e1, e3]
  rcases h1 with h1 | h1
  · rw [h1] at hp
    simp at hp
  · refine h1 ?_
    rw [← padTo_get p ps.length, ← e, padTo_get, List.getD_eq_getElem?_getD, List.getElem?_eq_none (by rw [hm.1]; omega)]
    rfl
end Go.Proofs.YteeeocianofkfaaGreat
