/-
  slices.SortFunc at calls: what it does.
-/
import Derived.Test.YtggecoekoilahaaIdSort
namespace Go.Proofs.Ytggecoekoilahaa
open Go.RowKit Go.Shelf Go.Lib Go.Sort
set_option linter.unusedSimpArgs false
set_option linter.unusedVariables false

instance : Inhabited RC := ⟨⟨0, 0, ⟨#[]⟩, none, 0, 0, 0, 0, 0, none, 0, 0⟩⟩

theorem cmpI_neg (a b : Int) : (cmpI a b < 0) ↔ a < b := by
  unfold cmpI
  by_cases h1 : a < b
  · simp [h1]
  · by_cases h2 : b < a <;> simp [h1, h2]
theorem cmpI_zero (a b : Int) : (cmpI a b ≠ 0) ↔ a ≠ b := by
  unfold cmpI
  by_cases h1 : a < b
  · simp [h1]; omega
  · by_cases h2 : b < a
    · simp [h1, h2]; omega
    · simp [h1, h2]; omega
theorem cfRC_neg (x y : RC) : (cfRC x y < 0) ↔ (x.cl < y.cl ∨ (x.cl = y.cl ∧ x.fr < y.fr)) := by
  unfold cfRC
  by_cases h : x.cl = y.cl
  · rw [if_neg (fun e => (cmpI_zero _ _).1 e h), cmpI_neg]
    constructor
    · intro h1; exact .inr ⟨h, h1⟩
    · rintro (h1 | ⟨_, h1⟩)
      · omega
      · exact h1
  · rw [if_pos ((cmpI_zero _ _).2 h), cmpI_neg]
    constructor
    · intro h1; exact .inl h1
    · rintro (h1 | ⟨h1, _⟩)
      · exact h1
      · exact absurd h1 h
theorem swoRC : SWO (ltOf cfRC) where
  irrefl x := by unfold ltOf; rw [decide_eq_false_iff_not, cfRC_neg]; omega
  trans x y z h1 h2 := by unfold ltOf at *; rw [decide_eq_true_iff, cfRC_neg] at *; omega
  ntrans x y z h1 h2 := by unfold ltOf at *; rw [decide_eq_false_iff_not, cfRC_neg] at *; omega

def SortedL (l : List RC) : Prop := ∀ (i j : Nat) a b, i < j → l[i]? = some a → l[j]? = some b → ¬ (b.cl < a.cl ∨ (b.cl = a.cl ∧ b.fr < a.fr))

theorem getElem!_of {l : List RC} {i : Nat} {a : RC} (h : l[i]? = some a) : l.toArray[i]! = a := by
  obtain ⟨hi, e⟩ := List.getElem?_eq_some_iff.1 h
  rw [getElem!_pos l.toArray i (by simpa using hi)]
  simpa using e
theorem cells_getElem! (c : RC) (j : Nat) (hj : j < 8) : c.cells[j]? = some (c.cells[j]!) := by
  rw [List.getElem!_eq_getElem?_getD, List.getElem?_eq_getElem (by rw [cells_length]; exact hj)]
  rfl

theorem sort_gb (w : World) (g m : Nat) (dk : Array RC) (os : Array Obj) : w.grownBy (sortWorldK RC.cells 8 w g 0 m dk os) (some g) := by
  refine ⟨rfl, rfl, rfl, size_sortWorldK_c RC.cells 8 w g 0 m dk os, fun k hk hne => ?_⟩
  unfold sortWorldK putRowK putRow mapBlock grow Sort.ahead
  simp only
  rw [Array.getElem?_append_left (by simpa using hk), Array.getElem?_modify, if_neg (fun e => hne (by rw [e]))]

theorem row_of_holds {w : World} {g cap : Nat} {l : List RC} (h : HoldsK RC.cells 8 w g 0 l.toArray) (hc : l.length ≤ cap) (hg : g < w.heap.size) : RowRd w (.slice (some ⟨g, 0, none⟩) l.length cap) l := by
  refine ⟨_, cap, rfl, hc, fun _ => ⟨g, 0, rfl, hg, fun i c hi j u hj => ?_⟩⟩
  have hil : i < l.length := (List.getElem?_eq_some_iff.1 hi).1
  have hj8 : j < 8 := by
    rcases Nat.lt_or_ge j 8 with h1 | h1
    · exact h1
    · rw [List.getElem?_eq_none (by rw [cells_length]; exact h1)] at hj; cases hj
  have h1 := (h (i * 8 + j) (by rw [size_flatK]; simp; omega)).1
  rw [get_flatK _ _ _ _ (by simp; omega), show (i * 8 + j) / 8 = i by omega, show (i * 8 + j) % 8 = j by omega, getElem!_of hi] at h1
  rw [← Nat.add_assoc] at h1
  rw [h1, ← hj, cells_getElem! c j hj8]
  rfl
theorem holds_of_row {w : World} {g cap : Nat} {l : List RC} {cur : Array Value} {ty : TypeId} (h : RowRd w (.slice (some ⟨g, 0, none⟩) l.length cap) l) (hw : w.heap[g]? = some (.cells cur ty)) : HoldsK RC.cells 8 w g 0 l.toArray := by
  intro t ht
  rw [size_flatK] at ht
  have ht' : t < l.length * 8 := by simpa using ht
  rw [get_flatK _ _ _ _ ht]
  obtain ⟨c, hc⟩ : ∃ c, l[t / 8]? = some c := ⟨_, List.getElem?_eq_getElem (by omega)⟩
  rw [getElem!_of hc]
  obtain ⟨a', cap', h1, h2, h3⟩ := h
  cases h1
  obtain ⟨b, o, h4, h5, h6⟩ := h3 (fun e => by rw [e] at hc; simp at hc)
  cases h4
  refine ⟨?_, by unfold World.frozen?; simp [hw]⟩
  have := h6 _ _ hc (t % 8) _ (cells_getElem! c (t % 8) (Nat.mod_lt _ (by omega)))
  rw [show 0 + t / 8 * 8 + t % 8 = 0 + t by omega] at this
  exact this

def SortPost (v : Value) (l : List RC) (B : Nat) (w : World) (e : Ending) (w' : World) : Prop := e = .returned (.tuple #[]) ∧ ∃ l', l'.Perm l ∧ SortedL l' ∧ RowRd w' v l' ∧ Below B w w'

theorem sort_any (v : Value) (n : Nat) (l : List RC) (B : Nat) (w : World) (ho : w.ownsRow B 30 8 v n (flat l)) (hl : l.length ≤ 1000) (hB : B ≤ w.heap.size) :
    Calls Try.prog 26 #[v, .func (.func 27) #[] #[]] w (SortPost v l B w) := by
  have hrow := RowRd.of_owns ho
  have hn : l.length = n := by have := ho.1; rw [flat_length] at this; omega
  by_cases hne : l = []
  · subst hne
    obtain ⟨a, cap, rfl⟩ := hrow.form
    have hcon := AnyF.slices_SortFunc_none { Try.sortCall with } a cap (.func (.func 27) #[] #[]) w
    change Calls Try.prog 26 _ _ _ at hcon
    refine hcon.mono ?_
    rintro e w' ⟨rfl, rfl⟩
    exact ⟨rfl, [], List.Perm.refl _, fun i j a b _ h => by simp at h, hrow, Below.refl _ _⟩
  · rcases ho.2 with ⟨_, h2⟩ | ⟨g, cap, cur, rfl, h2, h3, h4, h5, h6, h7⟩
    · exact absurd (List.eq_nil_of_length_eq_zero (hn.trans h2)) hne
    · subst hn
      have hH := holds_of_row hrow h3
      have eg : ∀ args w, (callFunc 27 args).run Try.prog w = .ok (.enter 27 args) w := enters_of Try.func27 (by kernel_rfl) rfl
      have hcon := AnyQ.slices_SortFunc Try.sortCall 8 Try.isAgg30 Try.sizeOf30 RC.cells cells_length (fun x u hu => flat_one [x] u (by simpa [flat] using hu)) cfRC swoRC 27 #[] g 0 cap l.toArray w eg
        (fun m os dk hs x y => right1_any x y _) hH (lt_of_heap h3) (by simp; omega)
      change Calls Try.prog 26 _ _ _ at hcon
      have hcon' : Calls Try.prog 26 #[.slice (some ⟨g, 0, none⟩) l.length cap, .func (.func 27) #[] #[]] w _ := hcon
      refine hcon'.mono ?_
      rintro e w' ⟨rfl, d', m, os, hp, hs, rfl⟩
      obtain ⟨p1, p2, p3⟩ := hp
      have hsz : d'.size = l.length := by rw [p1]; simp
      have hperm : d'.toList.Perm l := by
        have := p3
        rw [show (d'.extract 0 l.toArray.size) = d' by simp [hsz.symm]] at this
        simpa using this
      have hlen : d'.toList.length = l.length := by simpa using hsz
      refine ⟨rfl, d'.toList, hperm, fun i j a b hij ha hb => ?_, ?_, ?_⟩
      · have hi := (List.getElem?_eq_some_iff.1 ha).1
        have hj := (List.getElem?_eq_some_iff.1 hb).1
        have := hs i j (Nat.zero_le _) hij (by simp at hj; simpa [hsz] using hj)
        rw [← Array.toArray_toList (xs := d'), getElem!_of ha, getElem!_of hb] at this
        unfold ltOf at this
        rw [decide_eq_false_iff_not, cfRC_neg] at this
        exact this
      · have h8 := holdsK_sortWorldK_c RC.cells 8 w g 0 l.toArray d' m os hH (lt_of_heap h3) (by rw [hsz]; simp)
        have h9 := row_of_holds (l := d'.toList) (cap := cap) h8 (by omega) (Nat.lt_of_lt_of_le (lt_of_heap h3) (size_sortWorldK_c RC.cells 8 w g 0 m d' os))
        rwa [hlen] at h9
      · exact (Go.RowKit.Below.refl B w).grown (sort_gb w g m d' os) hB (fun k hk => by cases hk; exact h2)
end Go.Proofs.Ytggecoekoilahaa
