/-
  What is left of a permitted history without a get, and without calls that do not count, in plain words.
-/
import Derived.Test.YtggecoekoilahaaIdLawPlain
import Derived.Test.YtggecoekoilahaaIdEval
namespace Go.Proofs.Ytggecoekoilahaa
set_option linter.unusedVariables false

/-- Permitted. -/
def permM (l : List CM) : Prop := rightM (rcs l) ∧ ∀ m ∈ l, goesKey l m.c.key = true

theorem range_atC (l : List CM) : (List.range l.length).map (atC l) = l := by
  apply List.ext_getElem?
  intro i
  by_cases hi : i < l.length
  · rw [List.getElem?_map, List.getElem?_range hi, List.getElem?_eq_getElem hi]
    simp [atC, hi]
  · rw [List.getElem?_eq_none (by simpa using hi), List.getElem?_eq_none (by simpa using hi)]

theorem goes_erase_at (l : List CM) (n j : Nat) (t : Bool) (v : List Nat) (m : CM) (hl : l.length = n + 1) (hj : l[j]? = some m) (h2 : m.c.kd = 2) (hto : m.c.to ≠ -1)
    (hg : goesM (n + 1) l t v = true) : goesM n (l.eraseIdx j) t v = true := by
  have hjl : j < l.length := (List.getElem?_eq_some_iff.1 hj).1
  have hm : atC l j = m := atC_of hj
  have h1 := goes_erase (atC l) n (List.range l.length) t v j List.nodup_range (by simpa using hl) (by simpa using hjl) (by rw [hm]; exact h2) (by rw [hm]; exact hto) (by rw [range_atC]; exact hg)
  rw [← nodup_eraseIdx (List.range l.length) j j List.nodup_range (by simp [hjl]), ← map_eraseIdx', range_atC] at h1
  exact h1

theorem counts_get {c : RC} (h : c.counts = true) (h2 : c.kd = 2) : c.to ≠ -1 := by
  unfold RC.counts at h
  rw [if_pos h2, Bool.and_eq_true] at h
  exact bne_iff_ne.1 h.1

theorem split_at {l : List CM} {k : Nat} {m : CM} (h : l[k]? = some m) : l = l.take k ++ m :: l.drop (k + 1) := by
  obtain ⟨hk, rfl⟩ := List.getElem?_eq_some_iff.1 h
  rw [← List.drop_eq_getElem_cons hk, List.take_append_drop]

/-- A key's calls without a get. -/
theorem goesKey_erase (l : List CM) (k : Nat) (m : CM) (key : ByteArray) (hm : l[k]? = some m) (h2 : m.c.kd = 2) (hg : goesKey l key = true) : goesKey (l.eraseIdx k) key = true := by
  have hs := split_at hm
  have hkl : k < l.length := (List.getElem?_eq_some_iff.1 hm).1
  have he : ofM (l.eraseIdx k) key = ofM (l.take k) key ++ ofM (l.drop (k + 1)) key := by
    rw [List.eraseIdx_eq_take_drop_succ]
    unfold ofM
    rw [List.filter_append]
  have ho : ofM l key = ofM (l.take k) key ++ ((if ofC key m = true then [m] else []) ++ ofM (l.drop (k + 1)) key) := by
    conv => lhs; rw [hs]
    unfold ofM
    rw [List.filter_append, List.filter_cons]
    split <;> simp
  unfold goesKey at *
  rw [he]
  by_cases hc : ofC key m = true
  · rw [if_pos hc] at ho
    have hcnt : m.c.counts = true := by
      unfold ofC at hc
      rw [Bool.and_eq_true] at hc
      exact hc.2
    have hlen : (ofM l key).length = ((ofM (l.take k) key ++ ofM (l.drop (k + 1)) key).length) + 1 := by rw [ho]; simp; omega
    rw [hlen] at hg
    have hat : (ofM l key)[(ofM (l.take k) key).length]? = some m := by rw [ho]; simp
    have h := goes_erase_at (ofM l key) _ _ false [] m hlen hat h2 (counts_get hcnt h2) hg
    have e : (ofM l key).eraseIdx (ofM (l.take k) key).length = ofM (l.take k) key ++ ofM (l.drop (k + 1)) key := by
      rw [ho, List.eraseIdx_append_of_length_le (Nat.le_refl _)]
      simp
    rwa [e] at h
  · rw [if_neg hc, List.nil_append] at ho
    rwa [ho] at hg

theorem permM_erase (l : List CM) (k : Nat) (m : CM) (hm : l[k]? = some m) (h2 : m.c.kd = 2) (hp : permM l) : permM (l.eraseIdx k) := by
  refine ⟨?_, fun x hx => ?_⟩
  · exact rightM_sublist ((List.eraseIdx_sublist l k).map CM.c) hp.1
  · exact goesKey_erase l k m x.c.key hm h2 (hp.2 x (List.mem_of_mem_eraseIdx hx))

theorem permM_counts (l : List CM) (hp : permM l) : permM (l.filter fun m => m.c.counts) := by
  refine ⟨rightM_sublist (List.filter_sublist.map CM.c) hp.1, fun x hx => ?_⟩
  have hg := hp.2 x (List.mem_filter.1 hx).1
  have e : ofM (l.filter fun m => m.c.counts) x.c.key = ofM l x.c.key := by
    unfold ofM
    rw [List.filter_filter]
    congr 1
    funext m
    unfold ofC
    cases m.c.counts <;> simp
  unfold goesKey at *
  rwa [e]

/-- The calls up to a place that count. -/
def cntsU (l : List CM) (I : Nat) : List CM := (l.take I).filter fun m => m.c.counts
/-- The calls up to a place, without the one at k, if that is a get. -/
def getsU (l : List CM) (k I : Nat) : List CM := if (atC l k).c.kd = 2 then (l.take I).eraseIdx k else l.take I
theorem cntsU_succ {l : List CM} {I : Nat} {m : CM} (h : l[I]? = some m) : cntsU l (I + 1) = cntsU l I ++ (if m.c.counts = true then [m] else []) := by
  unfold cntsU
  rw [List.take_add_one, h, List.filter_append]
  congr 1
  cases hc : m.c.counts <;> simp [hc]
theorem getsU_succ {l : List CM} {k I : Nat} {m : CM} (h : l[I]? = some m) : getsU l k (I + 1) = getsU l k I ++ (if (I ≠ k ∨ m.c.kd ≠ 2) then [m] else []) := by
  have hI : I < l.length := (List.getElem?_eq_some_iff.1 h).1
  have ht : l.take (I + 1) = l.take I ++ [m] := by rw [List.take_add_one, h]; rfl
  have hlen : (l.take I).length = I := by rw [List.length_take]; omega
  unfold getsU
  by_cases hk : (atC l k).c.kd = 2
  · rw [if_pos hk, if_pos hk, ht]
    by_cases e : I = k
    · subst e
      rw [atC_of h] at hk
      rw [if_neg (by rintro (h | h); exact h rfl; exact h hk)]
      rw [List.eraseIdx_append_of_length_le (by omega), hlen, Nat.sub_self]
      have e9 : (l.take I).eraseIdx I = l.take I := List.eraseIdx_of_length_le (by omega)
      rw [e9]
      simp
    · rw [if_pos (.inl e)]
      by_cases e2 : k < I
      · rw [List.eraseIdx_append_of_lt_length (by omega)]
      · rw [List.eraseIdx_of_length_le (by simp; omega), List.eraseIdx_of_length_le (by omega)]
  · rw [if_neg hk, if_neg hk, ht]
    have : (I ≠ k ∨ m.c.kd ≠ 2) := by
      by_cases e : I = k
      · subst e; rw [atC_of h] at hk; exact .inr hk
      · exact .inl e
    rw [if_pos this]
theorem getsU_perm (l : List CM) (k : Nat) (hk : k < l.length ∨ l = []) (hp : permM l) : permM (getsU l k l.length) := by
  unfold getsU
  rw [List.take_length]
  split
  · rename_i h2
    rcases hk with hk | rfl
    · refine permM_erase l k (atC l k) ?_ h2 hp
      rw [List.getElem?_eq_getElem hk]
      simp [atC, hk]
    · simpa using hp
  · exact hp
theorem cntsU_perm (l : List CM) (hp : permM l) : permM (cntsU l l.length) := by
  unfold cntsU
  rw [List.take_length]
  exact permM_counts l hp
theorem cntsU_le (l : List CM) (I : Nat) : (cntsU l I).length ≤ I := Nat.le_trans (List.length_filter_le _ _) (List.length_take_le _ _)
theorem getsU_le (l : List CM) (k I : Nat) : (getsU l k I).length ≤ I := by
  unfold getsU
  have h := List.length_take_le I l
  split
  · exact Nat.le_trans (List.length_eraseIdx_le _ _) h
  · exact h
theorem cntsU_sub (l : List CM) (I : Nat) : ∀ m ∈ cntsU l I, m ∈ l := fun m hm => List.mem_of_mem_take (List.mem_filter.1 hm).1
theorem getsU_sub (l : List CM) (k I : Nat) : ∀ m ∈ getsU l k I, m ∈ l := by
  intro m hm
  unfold getsU at hm
  split at hm
  · exact List.mem_of_mem_take (List.mem_of_mem_eraseIdx hm)
  · exact List.mem_of_mem_take hm
end Go.Proofs.Ytggecoekoilahaa
