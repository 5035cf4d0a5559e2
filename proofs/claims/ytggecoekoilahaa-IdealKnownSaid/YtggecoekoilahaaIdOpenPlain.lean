/-
  A permitted history in which a put or delete that was answered OK is not answered.
-/
import Derived.Test.YtggecoekoilahaaIdLessPlain
namespace Go.Proofs.Ytggecoekoilahaa
set_option linter.unusedVariables false

/-- The same call, not answered. -/
def CM.weak (m : CM) : CM := { m with c := { m.c with to := -1 } }

theorem goes_weak (L : List CM) (j : Nat) (m : CM) (t : Bool) (v : List Nat) (hj : L[j]? = some m) (hg : goesM L.length L t v = true) : goesM (L.set j m.weak).length (L.set j m.weak) t v = true := by
  have hjl : j < L.length := (List.getElem?_eq_some_iff.1 hj).1
  have hf : ∀ i, atC (L.set j m.weak) i = if i = j then m.weak else atC L i := by
    intro i
    unfold atC
    rw [List.getElem?_set]
    by_cases e : i = j
    · subst e; simp [hjl]
    · rw [if_neg (fun h => e h.symm), if_neg e]
  have hmj : atC L j = m := atC_of hj
  have h1 := goes_mono (atC L) (atC (L.set j m.weak)) L.length (List.range L.length) t v List.nodup_range (by simp) ⟨?_, ?_⟩ (by rw [range_atC]; exact hg)
  · have e : List.range L.length = List.range (L.set j m.weak).length := by simp
    rw [e, range_atC] at h1
    simpa using h1
  · intro i hi
    rw [hf i]
    by_cases e : i = j
    · subst e
      rw [if_pos rfl, hmj]
      exact ⟨rfl, rfl, rfl, rfl, fun _ => rfl⟩
    · rw [if_neg e]
      exact ⟨rfl, rfl, rfl, rfl, fun h => h⟩
  · intro a ha b hb
    rw [hf a, hf b]
    by_cases e : a = j
    · subst e
      rw [if_pos rfl]
      intro h
      simp [RC.ahead, CM.weak] at h
    · rw [if_neg e]
      by_cases e2 : b = j
      · subst e2
        rw [if_pos rfl, hmj]
        exact fun h => h
      · rw [if_neg e2]
        exact fun h => h

theorem weak_counts (m : CM) (hk : m.c.kd ≠ 2) (hc : m.c.co = 0) (key : ByteArray) : ofC key m.weak = ofC key m := by
  unfold ofC RC.counts CM.weak
  simp [hk, hc]

theorem goesKey_weak (l : List CM) (k : Nat) (m : CM) (key : ByteArray) (hm : l[k]? = some m) (hk : m.c.kd ≠ 2) (hc : m.c.co = 0) (hg : goesKey l key = true) : goesKey (l.set k m.weak) key = true := by
  have hs := split_at hm
  have hkl : k < l.length := (List.getElem?_eq_some_iff.1 hm).1
  have hs2 : l.set k m.weak = l.take k ++ m.weak :: l.drop (k + 1) := by
    rw [List.set_eq_take_append_cons_drop, if_pos hkl]
  have he : ofM (l.set k m.weak) key = ofM (l.take k) key ++ ((if ofC key m = true then [m.weak] else []) ++ ofM (l.drop (k + 1)) key) := by
    rw [hs2]
    unfold ofM
    rw [List.filter_append, List.filter_cons, weak_counts m hk hc]
    split <;> simp
  have ho : ofM l key = ofM (l.take k) key ++ ((if ofC key m = true then [m] else []) ++ ofM (l.drop (k + 1)) key) := by
    conv => lhs; rw [hs]
    unfold ofM
    rw [List.filter_append, List.filter_cons]
    split <;> simp
  unfold goesKey at *
  by_cases hcc : ofC key m = true
  · rw [if_pos hcc] at ho he
    have hat : (ofM l key)[(ofM (l.take k) key).length]? = some m := by rw [ho]; simp
    have h := goes_weak (ofM l key) _ m false [] hat hg
    have e : (ofM l key).set (ofM (l.take k) key).length m.weak = ofM (l.set k m.weak) key := by
      rw [ho, he, List.set_append_right _ _ (Nat.le_refl _)]
      simp
    rwa [e] at h
  · rw [if_neg hcc] at ho he
    rw [he, ← ho]
    exact hg

theorem permM_weak (l : List CM) (k : Nat) (m : CM) (hm : l[k]? = some m) (hk : m.c.kd ≠ 2) (hc : m.c.co = 0) (hp : permM l) (hr : rightM (rcs (l.set k m.weak))) : permM (l.set k m.weak) := by
  refine ⟨hr, fun x hx => ?_⟩
  have : ∃ y ∈ l, x.c.key = y.c.key := by
    obtain ⟨i, hi⟩ := List.getElem?_of_mem hx
    rw [List.getElem?_set] at hi
    split at hi
    · split at hi
      · cases hi
        exact ⟨m, List.mem_of_getElem? hm, rfl⟩
      · cases hi
    · exact ⟨x, List.mem_of_getElem? hi, rfl⟩
  obtain ⟨y, hy, e⟩ := this
  rw [e]
  exact goesKey_weak l k m _ hm hk hc (hp.2 y hy)
end Go.Proofs.Ytggecoekoilahaa
