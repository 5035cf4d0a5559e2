/-
  When a history is right: by pairs, and by neighbours of the sorted row.
-/
import Derived.Test.YtggecoekoilahaaIdSort2
import Derived.Test.YtggecoekoilahaaIdRight
namespace Go.Proofs.Ytggecoekoilahaa
set_option linter.unusedVariables false

/-- Does b begin behind a, if both are one client's? -/
def adjBad (a b : RC) : Bool := (a.cl == b.cl) && ((a.to == -1) || decide (b.fr ≤ a.to))
def SymOK (c d : RC) : Prop := c.clash d = false ∧ d.clash c = false

theorem clash_iff (c d : RC) : c.clash d = true ↔ (d.cl = c.cl ∧ (d.fr = c.fr ∨ (d.fr < c.fr ∧ (d.to = -1 ∨ c.fr ≤ d.to)))) := by
  unfold RC.clash
  simp
theorem adjBad_iff (a b : RC) : adjBad a b = true ↔ (a.cl = b.cl ∧ (a.to = -1 ∨ b.fr ≤ a.to)) := by
  unfold adjBad
  simp
theorem bad_iff (c : RC) : c.bad = false ↔ (1 ≤ c.kd ∧ c.kd ≤ 3 ∧ 0 ≤ c.fr ∧ (c.to = -1 ∨ c.fr < c.to)) := by
  unfold RC.bad
  simp
  omega

theorem noclash_iff (c d : RC) : c.clash d = false ↔ ¬ (d.cl = c.cl ∧ (d.fr = c.fr ∨ (d.fr < c.fr ∧ (d.to = -1 ∨ c.fr ≤ d.to)))) := by
  rw [← clash_iff]; simp
theorem noadj_iff (a b : RC) : adjBad a b = false ↔ ¬ (a.cl = b.cl ∧ (a.to = -1 ∨ b.fr ≤ a.to)) := by
  rw [← adjBad_iff]; simp

/-- Pairs, by the relation that does not hang on the order. -/
theorem pairs_iff (l : List RC) : (∀ (i : Nat) c, l[i]? = some c → ∀ (k : Nat) d, l[k]? = some d → k ≠ i → c.clash d = false) ↔ l.Pairwise SymOK := by
  rw [List.pairwise_iff_getElem]
  constructor
  · intro h i j hi hj hij
    exact ⟨h i l[i] (List.getElem?_eq_getElem hi) j l[j] (List.getElem?_eq_getElem hj) (by omega), h j l[j] (List.getElem?_eq_getElem hj) i l[i] (List.getElem?_eq_getElem hi) (by omega)⟩
  · intro h i c hc k d hd hne
    obtain ⟨hi, rfl⟩ := List.getElem?_eq_some_iff.1 hc
    obtain ⟨hk, rfl⟩ := List.getElem?_eq_some_iff.1 hd
    rcases Nat.lt_or_gt_of_ne hne with h1 | h1
    · exact (h k i hk hi h1).2
    · exact (h i k hi hk h1).1

theorem sym_symm {c d : RC} (h : SymOK c d) : SymOK d c := ⟨h.2, h.1⟩

/-- Of a sorted row the neighbours tell all. -/
theorem sorted_pairs (l : List RC) (hs : SortedL l) (hb : ∀ c ∈ l, c.bad = false) :
    (∀ (i : Nat) a b, l[i]? = some a → l[i + 1]? = some b → adjBad a b = false) ↔ l.Pairwise SymOK := by
  constructor
  · intro h
    have key : ∀ (n i : Nat) a b, l[i]? = some a → l[i + n + 1]? = some b → adjBad a b = false := by
      intro n
      induction n with
      | zero => intro i a b ha hb'; exact h i a b ha hb'
      | succ n ih =>
        intro i a b ha hb'
        obtain ⟨c, hc⟩ : ∃ c, l[i + n + 1]? = some c := ⟨_, List.getElem?_eq_getElem (by have := (List.getElem?_eq_some_iff.1 hb').1; omega)⟩
        have h1 := (noadj_iff a c).1 (ih i a c ha hc)
        have h2 := (noadj_iff c b).1 (h (i + n + 1) c b hc (by rw [← hb']; congr 1))
        have s1 := hs i (i + n + 1) a c (by omega) ha hc
        have s2 := hs (i + n + 1) (i + (n + 1) + 1) c b (by omega) hc hb'
        have b1 := (bad_iff c).1 (hb c (List.mem_of_getElem? hc))
        rw [noadj_iff]
        omega
    rw [List.pairwise_iff_getElem]
    intro i j hi hj hij
    have h1 := (noadj_iff _ _).1 (key (j - i - 1) i l[i] l[j] (List.getElem?_eq_getElem hi) (by rw [show i + (j - i - 1) + 1 = j by omega]; exact List.getElem?_eq_getElem hj))
    have s1 := hs i j l[i] l[j] hij (List.getElem?_eq_getElem hi) (List.getElem?_eq_getElem hj)
    have b1 := (bad_iff l[i]).1 (hb _ (List.getElem_mem hi))
    unfold SymOK
    rw [noclash_iff, noclash_iff]
    omega
  · intro h i a b ha hb'
    obtain ⟨hi, rfl⟩ := List.getElem?_eq_some_iff.1 ha
    obtain ⟨hj, rfl⟩ := List.getElem?_eq_some_iff.1 hb'
    have h1 := List.pairwise_iff_getElem.1 h i (i + 1) hi hj (by omega)
    unfold SymOK at h1
    rw [noclash_iff, noclash_iff] at h1
    have s1 := hs i (i + 1) _ _ (by omega) ha hb'
    rw [noadj_iff]
    omega

/-- What the program finds of the sorted row is what the pairs say. -/
theorem right_sorted (l l' : List RC) (hp : l'.Perm l) (hs : SortedL l') (hb : ∀ c ∈ l, c.bad = false) (h10 : ∀ c ∈ l, cntKey l c.key ≤ 10) :
    (∀ (i : Nat) a b, l'[i]? = some a → l'[i + 1]? = some b → adjBad a b = false) ↔ rightM l := by
  rw [sorted_pairs l' hs (fun c hc => hb c (hp.mem_iff.1 hc)), hp.pairwise_iff sym_symm, ← pairs_iff]
  constructor
  · intro h i c hc
    exact ⟨hb c (List.mem_of_getElem? hc), fun k d hd hne => h i c hc k d hd hne, h10 c (List.mem_of_getElem? hc)⟩
  · intro h i c hc k d hd hne
    exact (h i c hc).2.1 k d hd hne

theorem cntKey_mono (l : List RC) (key : ByteArray) (k : Nat) : cntKey (l.take k) key ≤ cntKey l key := by
  unfold cntKey
  exact ((List.take_sublist k l).filter _).length_le
theorem cntKey_same (l : List RC) (k1 k2 : ByteArray) (h : k1.toList = k2.toList) : cntKey l k1 = cntKey l k2 := by
  unfold cntKey
  rw [h]

/-- The first calls are as they may be. -/
def GoodUpto (l : List RC) (I : Nat) : Prop := ∀ (i : Nat) c, i < I → l[i]? = some c → c.bad = false ∧ cntKey (l.take I) c.key ≤ 10
theorem GoodUpto.next {l : List RC} {I : Nat} {c : RC} (h : GoodUpto l I) (hc : l[I]? = some c) (hb : c.bad = false) (h10 : cntKey (l.take (I + 1)) c.key ≤ 10) : GoodUpto l (I + 1) := by
  intro i d hi hd
  by_cases e : i = I
  · subst e
    have : d = c := by rw [hc] at hd; exact (Option.some.inj hd).symm
    subst this
    exact ⟨hb, h10⟩
  · have h1 := h i d (by omega) hd
    refine ⟨h1.1, ?_⟩
    by_cases e2 : c.key.toList = d.key.toList
    · rw [← cntKey_same _ _ _ e2]; exact h10
    · rw [cntKey_succ l d.key I c hc, if_neg (by simp [e2])]
      exact h1.2
theorem GoodUpto.all {l : List RC} (h : GoodUpto l l.length) : (∀ c ∈ l, c.bad = false) ∧ ∀ c ∈ l, cntKey l c.key ≤ 10 := by
  have h1 : ∀ c ∈ l, c.bad = false ∧ cntKey l c.key ≤ 10 := fun c hc => by
    obtain ⟨i, hi⟩ := List.getElem?_of_mem hc
    have := h i c (List.getElem?_eq_some_iff.1 hi).1 hi
    rwa [List.take_length] at this
  exact ⟨fun c hc => (h1 c hc).1, fun c hc => (h1 c hc).2⟩
end Go.Proofs.Ytggecoekoilahaa
