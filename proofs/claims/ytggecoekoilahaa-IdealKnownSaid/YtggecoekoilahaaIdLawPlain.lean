/-
  What the laws of the chapter say of rows of calls, in plain words.
-/
import Derived.Test.YtggecoekoilahaaIdPlain
import Derived.Test.YtggecoekoilahaaIdRightPlain
import Derived.Test.YtggecoekoilahaaIdPKey
namespace Go.Proofs.Ytggecoekoilahaa
set_option linter.unusedVariables false

theorem filter_comm (is : List Nat) (i j : Nat) : (is.filter fun q => q != i).filter (fun q => q != j) = (is.filter fun q => q != j).filter fun q => q != i := by
  rw [List.filter_filter, List.filter_filter]
  congr 1
  funext q
  exact Bool.and_comm _ _

/-- A get that was answered may be left out. -/
theorem goes_erase (f : Nat → CM) : ∀ (n : Nat) (is : List Nat) (t : Bool) (v : List Nat) (j : Nat), is.Nodup → is.length = n + 1 → j ∈ is → (f j).c.kd = 2 → (f j).c.to ≠ -1 →
    goesM (n + 1) (is.map f) t v = true → goesM n ((is.filter fun q => q != j).map f) t v = true
  | n, is, t, v, j, hnd, hl, hj, h2, hto, hg => by
    rw [goesM_step n f is t v hnd, Bool.or_eq_true, List.any_eq_true] at hg
    rcases hg with h | ⟨i, hi, h⟩
    · exfalso
      unfold overM at h
      rw [List.all_eq_true] at h
      have := h (f j) (List.mem_map_of_mem hj)
      simp at this
      exact hto this
    · rw [Bool.and_eq_true, Bool.and_eq_true] at h
      obtain ⟨hf, hp, hg⟩ := h
      by_cases e : i = j
      · subst e
        have e1 : nowM t (f i) = t := by simp [nowM, h2]
        have e2 : leftM v (f i) = v := by simp [leftM, h2]
        rwa [e1, e2] at hg
      · have hli := length_filter_ne is i hnd hi
        have hji : j ∈ is.filter fun q => q != i := List.mem_filter.2 ⟨hj, bne_iff_ne.2 fun h => e h.symm⟩
        have hij : i ∈ is.filter fun q => q != j := List.mem_filter.2 ⟨hi, bne_iff_ne.2 e⟩
        have hpos : 0 < (is.filter fun q => q != i).length := List.length_pos_of_mem hji
        match n, hl, hg with
        | 0, hl, hg => omega
        | n + 1, hl, hg =>
          have ih := goes_erase f n (is.filter fun q => q != i) _ _ j (List.Pairwise.filter _ hnd) (by omega) hji h2 hto hg
          rw [goesM_step n f _ t v (List.Pairwise.filter _ hnd), Bool.or_eq_true, List.any_eq_true]
          refine .inr ⟨i, hij, ?_⟩
          rw [filter_comm is i j] at ih
          rw [hp, ih]
          have : firstM ((is.filter fun q => q != j).map f) (f i) = true := by
            unfold firstM at *
            rw [List.all_eq_true] at *
            intro k hk
            obtain ⟨q, hq, rfl⟩ := List.mem_map.1 hk
            exact hf (f q) (List.mem_map_of_mem (List.mem_filter.1 hq).1)
          rw [this]
          rfl

/-- One history asks less than another one. -/
def Weaker (is : List Nat) (f g : Nat → CM) : Prop :=
  (∀ i ∈ is, (g i).c.kd = (f i).c.kd ∧ (g i).c.co = (f i).c.co ∧ (g i).got = (f i).got ∧ (g i).val = (f i).val ∧ ((f i).c.to = -1 → (g i).c.to = -1)) ∧
  ∀ i ∈ is, ∀ j ∈ is, (g i).c.ahead (g j).c = true → (f i).c.ahead (f j).c = true
theorem goes_mono (f g : Nat → CM) : ∀ (n : Nat) (is : List Nat) (t : Bool) (v : List Nat), is.Nodup → is.length = n → Weaker is f g → goesM n (is.map f) t v = true → goesM n (is.map g) t v = true
  | 0, is, t, v, _, hl, _, _ => by
    rw [List.eq_nil_of_length_eq_zero hl]
    rfl
  | n + 1, is, t, v, hnd, hl, hw, hg => by
    rw [goesM_step n f is t v hnd, Bool.or_eq_true, List.any_eq_true] at hg
    rw [goesM_step n g is t v hnd, Bool.or_eq_true, List.any_eq_true]
    rcases hg with h | ⟨i, hi, h⟩
    · refine .inl ?_
      unfold overM at *
      rw [List.all_eq_true] at *
      intro m hm
      obtain ⟨q, hq, rfl⟩ := List.mem_map.1 hm
      have := h (f q) (List.mem_map_of_mem hq)
      simp at this ⊢
      exact (hw.1 q hq).2.2.2.2 this
    · rw [Bool.and_eq_true, Bool.and_eq_true] at h
      obtain ⟨hf, hp, hg⟩ := h
      have hli := length_filter_ne is i hnd hi
      obtain ⟨e1, e2, e3, e4, _⟩ := hw.1 i hi
      have hpa : passM t v (g i) = passM t v (f i) := by unfold passM; rw [e1, e2, e3]
      have hno : nowM t (g i) = nowM t (f i) := by unfold nowM; rw [e1]
      have hle : leftM v (g i) = leftM v (f i) := by unfold leftM; rw [e1, e4]
      have ih := goes_mono f g n (is.filter fun q => q != i) _ _ (List.Pairwise.filter _ hnd) (by omega)
        ⟨fun q hq => hw.1 q (List.mem_filter.1 hq).1, fun q hq r hr => hw.2 q (List.mem_filter.1 hq).1 r (List.mem_filter.1 hr).1⟩ hg
      refine .inr ⟨i, hi, ?_⟩
      rw [hpa, hp, hno, hle, ih]
      have : firstM (is.map g) (g i) = true := by
        unfold firstM at *
        rw [List.all_eq_true] at *
        intro k hk
        obtain ⟨q, hq, rfl⟩ := List.mem_map.1 hk
        have h1 := hf (f q) (List.mem_map_of_mem hq)
        cases h2 : (g q).c.ahead (g i).c with
        | false => rfl
        | true => rw [hw.2 q hq i hi h2] at h1; cases h1
      rw [this]
      rfl

/-- A part of a right history is right. -/
theorem rightM_iff (l : List RC) : rightM l ↔ (∀ c ∈ l, c.bad = false ∧ cntKey l c.key ≤ 10) ∧ l.Pairwise SymOK := by
  rw [← pairs_iff]
  constructor
  · intro h
    refine ⟨fun c hc => ?_, fun i c hc k d hd hne => (h i c hc).2.1 k d hd hne⟩
    obtain ⟨i, hi⟩ := List.getElem?_of_mem hc
    exact ⟨(h i c hi).1, (h i c hi).2.2⟩
  · rintro ⟨h1, h2⟩ i c hc
    have hm := List.mem_of_getElem? hc
    exact ⟨(h1 c hm).1, fun k d hd hne => h2 i c hc k d hd hne, (h1 c hm).2⟩
theorem rightM_sublist {l l' : List RC} (h : l'.Sublist l) (hr : rightM l) : rightM l' := by
  rw [rightM_iff] at *
  refine ⟨fun c hc => ⟨(hr.1 c (h.subset hc)).1, Nat.le_trans ?_ (hr.1 c (h.subset hc)).2⟩, hr.2.sublist h⟩
  unfold cntKey
  exact (h.filter _).length_le
end Go.Proofs.Ytggecoekoilahaa
