/-
  What the program's search must find, in plain words: calls that are left are a set of bits.
-/
import Derived.Test.YtggecoekoilahaaIdGoesDef
namespace Go.Proofs.Ytggecoekoilahaa
set_option linter.unusedVariables false

theorem nodup_eraseIdx : ∀ (is : List Nat) (p k : Nat), is.Nodup → is[p]? = some k → is.eraseIdx p = is.filter (fun j => j != k)
  | [], p, k, _, h => by simp at h
  | a :: is, 0, k, hn, h => by
    simp only [List.getElem?_cons_zero, Option.some.injEq] at h
    subst h
    have hn' := List.nodup_cons.1 hn
    rw [List.eraseIdx_cons_zero, List.filter_cons]
    simp only [bne_self_eq_false, Bool.false_eq_true, if_false]
    exact (List.filter_eq_self.2 fun j hj => bne_iff_ne.2 fun e : j = a => hn'.1 (e ▸ hj)).symm
  | a :: is, p + 1, k, hn, h => by
    have hn' := List.nodup_cons.1 hn
    have hk : k ∈ is := List.mem_of_getElem? (by simpa using h)
    have hak : a ≠ k := fun e => hn'.1 (e ▸ hk)
    rw [List.eraseIdx_cons_succ, List.filter_cons, if_pos (bne_iff_ne.2 hak), nodup_eraseIdx is p k hn'.2 (by simpa using h)]

theorem map_eraseIdx' {α β : Type} (f : α → β) : ∀ (l : List α) (i : Nat), (l.map f).eraseIdx i = (l.eraseIdx i).map f
  | [], _ => by simp
  | _ :: _, 0 => by simp
  | a :: l, i + 1 => by simp [map_eraseIdx' f l i]

/-- One step of 'goesM', over indexes. -/
theorem goesM_step (n : Nat) (f : Nat → CM) (is : List Nat) (t : Bool) (v : List Nat) (hnd : is.Nodup) :
    goesM (n + 1) (is.map f) t v = (overM (is.map f) || is.any fun k => firstM (is.map f) (f k) && (passM t v (f k) && goesM n ((is.filter fun j => j != k).map f) (nowM t (f k)) (leftM v (f k)))) := by
  rw [goesM]
  congr 1
  rw [Bool.eq_iff_iff, List.any_eq_true, List.any_eq_true]
  constructor
  · rintro ⟨p, hp, h⟩
    have hp' : p < is.length := by simpa using hp
    have e1 : (is.map f)[p]? = some (f is[p]) := by simp [List.getElem?_eq_getElem hp']
    rw [e1] at h
    refine ⟨is[p], List.getElem_mem hp', ?_⟩
    rw [map_eraseIdx', nodup_eraseIdx is p is[p] hnd (List.getElem?_eq_getElem hp')] at h
    exact h
  · rintro ⟨k, hk, h⟩
    obtain ⟨p, hp, rfl⟩ := List.getElem_of_mem hk
    refine ⟨p, by simpa using hp, ?_⟩
    have e1 : (is.map f)[p]? = some (f is[p]) := by simp [List.getElem?_eq_getElem hp]
    rw [e1]
    simp only
    rw [map_eraseIdx', nodup_eraseIdx is p is[p] hnd (List.getElem?_eq_getElem hp)]
    exact h

def cm0 : CM := ⟨⟨0, 0, ⟨#[]⟩, none, 0, 0, 0, 0, 0, none, 0, 0⟩, [], []⟩
/-- The call at a place. -/
def atC (l : List CM) (k : Nat) : CM := l[k]?.getD cm0
theorem atC_of {l : List CM} {k : Nat} {m : CM} (h : l[k]? = some m) : atC l k = m := by simp [atC, h]
/-- Which ones are left. -/
def bitsLeft (n left : Nat) : List Nat := (List.range n).filter fun k => left.testBit k
theorem bitsLeft_nodup (n left : Nat) : (bitsLeft n left).Nodup := List.Pairwise.filter _ List.nodup_range
theorem mem_bitsLeft {n left k : Nat} : k ∈ bitsLeft n left ↔ k < n ∧ left.testBit k = true := by simp [bitsLeft]
/-- There is a value, which the call 'last' put. -/
def thereL (l : List CM) (last : Int) : Bool := decide (0 ≤ last) && ((atC l last.toNat).c.kd == 1)
def valL (l : List CM) (last : Int) : List Nat := if thereL l last then (atC l last.toNat).val else []
def aliveB (l : List CM) (left : Nat) (last : Int) : Bool := goesM (bitsLeft l.length left).length ((bitsLeft l.length left).map (atC l)) (thereL l last) (valL l last)
def overB (l : List CM) (left : Nat) : Bool := (bitsLeft l.length left).all fun k => (atC l k).c.to == -1
def firstB (l : List CM) (left k : Nat) : Bool := (bitsLeft l.length left).all fun j => !(atC l j).c.ahead (atC l k).c
def nextL (l : List CM) (k : Nat) (last : Int) : Int := if (atC l k).c.kd = 2 then last else (k : Int)
def passB (l : List CM) (last : Int) (k : Nat) : Bool := passM (thereL l last) (valL l last) (atC l k)

theorem filter_bits (n left left' k : Nat) (h : ∀ j, left'.testBit j = (left.testBit j && (j != k))) : bitsLeft n left' = (bitsLeft n left).filter fun j => j != k := by
  unfold bitsLeft
  rw [List.filter_filter]
  congr 1
  funext j
  rw [h j, Bool.and_comm]

theorem thereL_next (l : List CM) (k : Nat) (last : Int) (hk : (atC l k).c.kd = 1 ∨ (atC l k).c.kd = 2 ∨ (atC l k).c.kd = 3) : thereL l (nextL l k last) = nowM (thereL l last) (atC l k) := by
  unfold nextL nowM
  rcases hk with h | h | h
  · rw [if_neg (by rw [h]; decide), if_pos h]
    simp [thereL, h]
  · rw [if_pos h, if_neg (by rw [h]; decide), if_neg (by rw [h]; decide)]
  · rw [if_neg (by rw [h]; decide), if_neg (by rw [h]; decide), if_pos h]
    simp [thereL, h]
theorem valL_next (l : List CM) (k : Nat) (last : Int) (hk : (atC l k).c.kd = 1 ∨ (atC l k).c.kd = 2 ∨ (atC l k).c.kd = 3) : valL l (nextL l k last) = leftM (valL l last) (atC l k) := by
  unfold nextL leftM
  rcases hk with h | h | h
  · rw [if_neg (by rw [h]; decide), if_pos h]
    simp [valL, thereL, h]
  · rw [if_pos h, if_neg (by rw [h]; decide), if_neg (by rw [h]; decide)]
  · rw [if_neg (by rw [h]; decide), if_neg (by rw [h]; decide), if_pos h]
    simp [valL, thereL, h]

theorem length_filter_ne : ∀ (is : List Nat) (k : Nat), is.Nodup → k ∈ is → (is.filter fun j => j != k).length + 1 = is.length
  | [], k, _, h => by simp at h
  | a :: is, k, hn, h => by
    have hn' := List.nodup_cons.1 hn
    rcases List.mem_cons.1 h with rfl | h
    · rw [List.filter_cons]
      simp only [bne_self_eq_false, Bool.false_eq_true, if_false]
      rw [List.filter_eq_self.2 fun j hj => bne_iff_ne.2 fun e : j = k => hn'.1 (e ▸ hj)]
      rfl
    · have hak : a ≠ k := fun e => hn'.1 (e ▸ h)
      rw [List.filter_cons, if_pos (bne_iff_ne.2 hak), List.length_cons, length_filter_ne is k hn'.2 h, List.length_cons]

/-- What is alive. 'clr' clears a bit. -/
theorem aliveB_step (l : List CM) (left : Nat) (last : Int) (clr : Nat → Nat) (hc : ∀ k, k < l.length → left.testBit k = true → ∀ j, (clr k).testBit j = (left.testBit j && (j != k)))
    (hkd : ∀ k, k < l.length → (atC l k).c.kd = 1 ∨ (atC l k).c.kd = 2 ∨ (atC l k).c.kd = 3) :
    aliveB l left last = (overB l left || (bitsLeft l.length left).any fun k => firstB l left k && (passB l last k && aliveB l (clr k) (nextL l k last))) := by
  have ho : overM ((bitsLeft l.length left).map (atC l)) = overB l left := by simp [overM, overB, List.all_map]; rfl
  rcases hn : (bitsLeft l.length left).length with _ | n
  · have h0 := List.eq_nil_of_length_eq_zero hn
    unfold aliveB
    rw [h0]
    simp [goesM, overM, overB, h0]
  · have e1 : aliveB l left last = goesM (n + 1) ((bitsLeft l.length left).map (atC l)) (thereL l last) (valL l last) := by unfold aliveB; rw [hn]
    rw [e1, goesM_step n (atC l) _ _ _ (bitsLeft_nodup _ _), ho]
    congr 1
    rw [Bool.eq_iff_iff, List.any_eq_true, List.any_eq_true]
    refine exists_congr fun k => and_congr_right fun hk => ?_
    obtain ⟨hk1, hk2⟩ := mem_bitsLeft.1 hk
    have e2 := filter_bits l.length left (clr k) k (hc k hk1 hk2)
    have e3 : firstM ((bitsLeft l.length left).map (atC l)) (atC l k) = firstB l left k := by simp [firstM, firstB, List.all_map]; rfl
    have e4 : (bitsLeft l.length (clr k)).length = n := by
      have := length_filter_ne _ k (bitsLeft_nodup l.length left) hk
      rw [← e2] at this
      omega
    have e5 : aliveB l (clr k) (nextL l k last) = goesM n (((bitsLeft l.length left).filter fun j => j != k).map (atC l)) (nowM (thereL l last) (atC l k)) (leftM (valL l last) (atC l k)) := by
      unfold aliveB
      rw [e4, e2, thereL_next l k last (hkd k hk1), valL_next l k last (hkd k hk1)]
    rw [e3, e5]
    rfl

/-- At the start: all are left. -/
theorem aliveB_all (l : List CM) (left : Nat) (h : ∀ k, k < l.length → left.testBit k = true) : aliveB l left (-1) = goesM l.length l false [] := by
  have e1 : bitsLeft l.length left = List.range l.length := by
    unfold bitsLeft
    exact List.filter_eq_self.2 fun k hk => h k (by simpa using hk)
  have e2 : (List.range l.length).map (atC l) = l := by
    apply List.ext_getElem?
    intro i
    by_cases hi : i < l.length
    · rw [List.getElem?_map, List.getElem?_range hi, List.getElem?_eq_getElem hi]
      simp [atC, hi]
    · rw [List.getElem?_eq_none (by simpa using hi), List.getElem?_eq_none (by simpa using hi)]
  unfold aliveB
  rw [e1, e2, List.length_range]
  rfl
end Go.Proofs.Ytggecoekoilahaa
