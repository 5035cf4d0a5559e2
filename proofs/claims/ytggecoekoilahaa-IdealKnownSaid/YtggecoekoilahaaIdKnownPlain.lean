/-
  Eleven puts at the same time: ten are permitted, eleven are not right.
-/
import Derived.Test.YtggecoekoilahaaIdRowPlain
namespace Go.Proofs.Ytggecoekoilahaa
set_option linter.unusedVariables false

theorem goes_puts : ∀ (n : Nat) (L : List CM) (t : Bool) (v : List Nat), L.length = n → (∀ m ∈ L, m.c.kd = 1) → (∀ a ∈ L, ∀ b ∈ L, a.c.ahead b.c = false) → goesM n L t v = true
  | 0, L, t, v, hl, _, _ => by
    rw [List.eq_nil_of_length_eq_zero hl]
    rfl
  | n + 1, [], t, v, hl, _, _ => by simp at hl
  | n + 1, m :: r, t, v, hl, h1, h2 => by
    rw [goesM, Bool.or_eq_true, List.any_eq_true]
    refine .inr ⟨0, by simp, ?_⟩
    simp only [List.getElem?_cons_zero, List.eraseIdx_cons_zero]
    have hm := h1 m List.mem_cons_self
    have hf : firstM (m :: r) m = true := by
      unfold firstM
      rw [List.all_eq_true]
      intro k hk
      rw [h2 k hk m List.mem_cons_self]
      rfl
    have hp : passM t v m = true := by simp [passM, hm]
    rw [hf, hp, goes_puts n r _ _ (by simpa using hl) (fun x hx => h1 x (List.mem_cons_of_mem _ hx)) (fun a ha b hb => h2 a (List.mem_cons_of_mem _ ha) b (List.mem_cons_of_mem _ hb))]
    rfl

/-- The eleven puts. -/
def manyC (i : Nat) : CM := ⟨⟨i, 1, ⟨#[97]⟩, none, 0, 0, i, 100, 0, none, 0, 0⟩, [], []⟩
def manyL (n : Nat) : List CM := (List.range n).map manyC
theorem manyL_at {n i : Nat} (h : i < n) : (manyL n)[i]? = some (manyC i) := by simp [manyL, h]
theorem manyL_mem {n : Nat} {m : CM} (h : m ∈ manyL n) : ∃ i, i < n ∧ m = manyC i := by
  obtain ⟨i, hi, rfl⟩ := List.mem_map.1 h
  exact ⟨i, by simpa using hi, rfl⟩
theorem manyC_counts (i : Nat) : (manyC i).c.counts = true := by simp [manyC, RC.counts]
theorem many_cnt (n i : Nat) : cntKey (rcs (manyL n)) (manyC i).c.key = n := by
  unfold cntKey
  rw [List.filter_eq_self.2, rcs_length]
  · simp [manyL]
  · intro d hd
    obtain ⟨m, hm, rfl⟩ := List.mem_map.1 hd
    obtain ⟨j, _, rfl⟩ := manyL_mem hm
    rw [manyC_counts]
    simp [manyC]
theorem many_right (n : Nat) (hn : n ≤ 11) : rightM (rcs (manyL n)) ↔ n ≤ 10 := by
  constructor
  · intro h
    rcases Nat.eq_zero_or_pos n with h0 | h0
    · omega
    · have := (h 0 (manyC 0).c (rcs_at (manyL_at h0))).2.2
      rwa [many_cnt] at this
  · intro h10
    rw [rightM_iff]
    constructor
    · intro c hc
      obtain ⟨m, hm, rfl⟩ := List.mem_map.1 hc
      obtain ⟨i, hi, rfl⟩ := manyL_mem hm
      refine ⟨(bad_iff _).2 ⟨by simp [manyC], by simp [manyC], by simp [manyC], .inr ?_⟩, by rw [many_cnt]; exact h10⟩
      show (i : Int) < 100
      omega
    · rw [List.pairwise_iff_getElem]
      intro i j hi hj hij
      have e : ∀ k (hk : k < (rcs (manyL n)).length), (rcs (manyL n))[k] = (manyC k).c := fun k hk => by simp [rcs, manyL]
      unfold SymOK
      rw [e, e, noclash_iff, noclash_iff]
      simp only [manyC]
      omega
theorem many_perm (n : Nat) (hn : n ≤ 11) : permM (manyL n) ↔ n ≤ 10 := by
  constructor
  · intro h
    exact (many_right n hn).1 h.1
  · intro h10
    refine ⟨(many_right n hn).2 h10, fun m hm => ?_⟩
    unfold goesKey
    refine goes_puts _ _ _ _ rfl (fun x hx => ?_) (fun a ha b hb => ?_)
    · obtain ⟨i, _, rfl⟩ := manyL_mem (ofM_mem hx)
      rfl
    · obtain ⟨i, hi, rfl⟩ := manyL_mem (ofM_mem ha)
      obtain ⟨j, hj, rfl⟩ := manyL_mem (ofM_mem hb)
      unfold RC.ahead
      rw [Bool.and_eq_false_iff]
      refine .inr (decide_eq_false ?_)
      simp only [manyC]
      omega
theorem manyL_take (n k : Nat) (h : k ≤ n) : (manyL n).take k = manyL k := by
  unfold manyL
  rw [← List.map_take, List.take_range, Nat.min_eq_left h]
theorem manyL_succ (n : Nat) : manyL (n + 1) = manyL n ++ [manyC n] := by simp [manyL, List.range_succ]
theorem manyL_length (n : Nat) : (manyL n).length = n := by simp [manyL]
end Go.Proofs.Ytggecoekoilahaa
