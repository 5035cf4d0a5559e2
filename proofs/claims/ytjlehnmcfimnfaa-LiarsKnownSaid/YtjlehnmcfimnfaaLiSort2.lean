/-
  SortFunc and Compact at nodes: what they do; inOrder's row.
-/
import Derived.Test.YtjlehnmcfimnfaaLiDel
namespace Go.Proofs.Ytjlehnmcfimnfaa
open Go.RowKit Go.Shelf Go.Lib Go.Sort
set_option linter.unusedSimpArgs false
set_option linter.unusedVariables false

theorem getElem!_of {l : List Int} {i : Nat} {a : Int} (h : l[i]? = some a) : l.toArray[i]! = a := by
  obtain ⟨hi, e⟩ := List.getElem?_eq_some_iff.1 h
  rw [getElem!_pos l.toArray i (by simpa using hi)]
  simpa using e
theorem sort_gb (w : World) (g m : Nat) (dk : Array Int) (os : Array Obj) : w.grownBy (sortWorld (Value.int .i64) w g 0 m dk os) (some g) := by
  refine ⟨rfl, rfl, rfl, ?_, fun k hk hne => ?_⟩
  · unfold sortWorld putRow mapBlock grow Go.Sort.ahead
    simp
  · unfold sortWorld putRow mapBlock grow Go.Sort.ahead
    simp only
    rw [Array.getElem?_append_left (by simpa using hk), Array.getElem?_modify, if_neg (fun e => hne (by rw [e]))]
theorem holds_of {w : World} {g : Nat} {l : List Int} {cur : Array Value} {ty : TypeId} (h : w.heap[g]? = some (.cells cur ty)) (hc : ∀ (i : Nat) x, l[i]? = some x → cur[i]? = some (.int .i64 x)) : Go.Sort.Holds (Value.int .i64) w g 0 l.toArray := by
  intro j hj
  obtain ⟨x, hx⟩ : ∃ x, l[j]? = some x := ⟨_, List.getElem?_eq_getElem (by simpa using hj)⟩
  rw [getElem!_of hx, Nat.zero_add]
  exact cell_heap h (hc j x hx)
theorem putRow_block {w : World} {g cap : Nat} {cur : Array Value} {ty : TypeId} (h : w.heap[g]? = some (.cells cur ty)) (d : Array Int) (hd : d.size ≤ cur.size) :
    ∃ cur2, (putRow (Value.int .i64) w g 0 d).heap[g]? = some (.cells cur2 ty) ∧ cur2.size = cur.size ∧ ∀ (i : Nat) x, d[i]? = some x → cur2[i]? = some (.int .i64 x) := by
  unfold putRow mapBlock
  simp only [Array.getElem?_modify, h]
  refine ⟨putCells (Value.int .i64) 0 d cur, rfl, ?_, ?_⟩
  · unfold putCells; simp
  · intro i x hx
    have hi := (Array.getElem?_eq_some_iff.1 hx).1
    have hic : i < cur.size := by omega
    unfold putCells
    rw [Array.getElem?_mapIdx, Array.getElem?_eq_getElem hic]
    simp only [Option.map_some]
    rw [if_pos (by omega)]
    have : d[i - 0]! = x := by
      rw [Nat.sub_zero, getElem!_pos d i hi]
      exact (Array.getElem?_eq_some_iff.1 hx).2
    rw [this]

def SortedN (n : Nat) (C : Nat → Nat) (l : List Int) : Prop := ∀ (i j : Nat) (a b : Int), i < j → l[i]? = some a → l[j]? = some b → ¬ keyLt (cntN n C) b a
def SortPost (n : Nat) (C : Nat → Nat) (v : Value) (l : List Int) (B : Nat) (w : World) (e : Ending) (w' : World) : Prop := e = .returned (.tuple #[]) ∧ ∃ l', l'.Perm l ∧ SortedN n C l' ∧ OwnI B w' v l' ∧ Below B w w'
theorem sort_any (n : Nat) (C : Nat → Nat) (v : Value) (l : List Int) (kb B : Nat) (w : World) (ho : OwnI B w v l) (hl : l.length ≤ 1000000000) (hB : B ≤ w.heap.size)
    (hcmp : l ≠ [] → ∀ (x y : Int) (W : World), Below B w W → Calls Try.prog 36 #[.int .i64 x, .int .i64 y, .pointer (some ⟨kb, 0, none⟩)] W fun e w' => e = .returned (.int .i64 (cfN n C x y)) ∧ ∃ q os', w' = grow (W.drewN q) os') :
    Calls Try.prog 35 #[v, .func (.func 36) #[] #[.pointer (some ⟨kb, 0, none⟩)]] w (SortPost n C v l B w) := by
  by_cases hne : l = []
  · subst hne
    obtain ⟨a, cap, rfl⟩ := ho.rd.form
    have hcon := Try.slices_SortFunc_none (α := Int) a cap (.func (.func 36) #[] #[.pointer (some ⟨kb, 0, none⟩)]) w
    refine hcon.mono ?_
    rintro e w' ⟨rfl, rfl⟩
    exact ⟨rfl, [], List.Perm.refl _, fun i j a b _ h => by simp at h, ho, Below.refl _ _⟩
  · rcases ho with ⟨_, h2⟩ | ⟨g, cap, cur, rfl, h2, h3, h4, h5, h6⟩
    · exact absurd h2 hne
    · have hH := holds_of h3 h6
      have hbel : ∀ (d' : Array Int) m os, Below B w (sortWorld (Value.int .i64) w g 0 m d' os) := fun d' m os => (Go.RowKit.Below.refl B w).grown (sort_gb w g m d' os) hB (fun k hk => by cases hk; exact h2)
      have eg : ∀ args w, (callFunc 36 args).run Try.prog w = .ok (.enter 36 args) w := enters_of Try.func36 (by kernel_rfl) rfl
      have hcon := Try.slices_SortFunc (Value.int .i64) (fun _ => rfl) (cfN n C) (swoN n C) 36 #[.pointer (some ⟨kb, 0, none⟩)] g 0 cap l.toArray w eg
        (fun m os dk hs x y => hcmp hne x y _ (hbel dk m os)) hH (lt_of_heap h3) (by simp; omega)
      have hcon' : Calls Try.prog 35 #[.slice (some ⟨g, 0, none⟩) l.length cap, .func (.func 36) #[] #[.pointer (some ⟨kb, 0, none⟩)]] w _ := hcon
      refine hcon'.mono ?_
      rintro e w' ⟨rfl, d', m, os, hp, hs, rfl⟩
      obtain ⟨p1, p2, p3⟩ := hp
      have hsz : d'.size = l.length := by rw [p1]; simp
      have hperm : d'.toList.Perm l := by
        have := p3
        rw [show (d'.extract 0 l.toArray.size) = d' by simp [hsz.symm]] at this
        simpa using this
      have hlen : d'.toList.length = l.length := by simpa using hsz
      refine ⟨rfl, d'.toList, hperm, fun i j a b hij ha hb => ?_, ?_, hbel _ _ _⟩
      · have hi := (List.getElem?_eq_some_iff.1 ha).1
        have hj := (List.getElem?_eq_some_iff.1 hb).1
        have := hs i j (Nat.zero_le _) hij (by simp at hj; simpa [hsz] using hj)
        rw [← Array.toArray_toList (xs := d'), getElem!_of ha, getElem!_of hb] at this
        unfold ltOf at this
        rw [decide_eq_false_iff_not, cfN_neg] at this
        exact this
      · have hpr := putRow_block (w := Go.Sort.ahead w m) (g := g) (cap := cap) h3 d' (by omega)
        obtain ⟨cur2, k1, k2, k3⟩ := hpr
        refine .inr ⟨g, cap, cur2, by rw [hlen], h2, ?_, by omega, by omega, fun i x hx => k3 i x (by simpa using hx)⟩
        unfold sortWorld grow
        simp only
        rw [Array.getElem?_append_left (lt_of_heap k1)]
        exact k1

theorem compact_len : ∀ (zs : List Int) (m : Nat), (Lib.compactUpTo zs.toArray m).length ≤ m
  | _, 0 => by simp [Lib.compactUpTo]
  | zs, m + 1 => by
    rw [Lib.compactUpTo_succ]
    have := compact_len zs m
    split <;> simp <;> omega
theorem compact_any (v : Value) (zs : List Int) (B : Nat) (w : World) (ho : OwnI B w v zs) (hl : zs.length ≤ 1000000000) (hB : B ≤ w.heap.size) :
    Calls Try.prog 40 #[v] w fun e w' => ∃ v', e = .returned v' ∧ OwnI B w' v' (Lib.compact zs) ∧ Below B w w' := by
  by_cases hne : zs = []
  · subst hne
    obtain ⟨a, cap, rfl⟩ := ho.rd.form
    refine (Try.slices_Compact_int_empty a cap w).mono ?_
    rintro e w' ⟨rfl, rfl⟩
    exact ⟨_, rfl, ho, Below.refl _ _⟩
  · rcases ho with ⟨_, h2⟩ | ⟨g, cap, cur, rfl, h2, h3, h4, h5, h6⟩
    · exact absurd h2 hne
    · refine (Try.slices_Compact_int g 0 cap zs w (holds_of h3 h6) (by omega) h4).mono ?_
      rintro e w' ⟨rfl, q, rfl⟩
      have hcl : (Lib.compact zs).length ≤ zs.length := compact_len zs _
      obtain ⟨cur2, k1, k2, k3⟩ := putRow_block (w := Go.Sort.ahead w q) (g := g) (cap := cap) h3 (Lib.compact zs ++ List.replicate (zs.length - (Lib.compact zs).length) 0).toArray (by simp; omega)
      refine ⟨_, rfl, .inr ⟨g, cap, cur2, rfl, h2, k1, by omega, k2.trans h5, fun i x hx => ?_⟩, ?_⟩
      · have hi := (List.getElem?_eq_some_iff.1 hx).1
        exact k3 i x (by
          rw [List.getElem?_toArray, List.getElem?_append_left hi]
          exact hx)
      · refine (Go.RowKit.Below.refl B w).grown (row := some g) ⟨rfl, rfl, rfl, ?_, fun k hk hne => ?_⟩ hB (fun k hk => by cases hk; exact h2)
        · unfold putRow mapBlock Go.Sort.ahead; simp
        · unfold putRow mapBlock Go.Sort.ahead
          simp only
          rw [Array.getElem?_modify, if_neg (fun e => hne (by rw [e]))]

theorem clone_any (v : Value) (l : List Int) (w : World) (hr : IRd w v l) (hl : l.length ≤ 1000000000) :
    Calls Try.prog 33 #[v] w fun e w' => ∃ v', e = .returned v' ∧ OwnI w.heap.size w' v' l ∧ Below w.heap.size w w' := by
  obtain ⟨a, cap, rfl⟩ := hr.form
  by_cases hne : l = []
  · subst hne
    cases a with
    | none =>
      refine (Try.slices_Clone_int_nil _ cap w).mono ?_
      rintro e w' ⟨rfl, rfl⟩
      exact ⟨_, rfl, .inl ⟨rfl, rfl⟩, Below.refl _ _⟩
    | some a =>
      refine (Try.slices_Clone_int_zero a cap w).mono ?_
      rintro e w' ⟨v', rfl, h1, _, h3⟩
      exact ⟨_, rfl, OwnI.of_owns (l := []) h1, h3⟩
  · obtain ⟨x, hx⟩ : ∃ x, l[0]? = some x := by
      cases l with
      | nil => exact absurd rfl hne
      | cons x l => exact ⟨x, rfl⟩
    obtain ⟨-, hcap, b, o, rfl, hb, -⟩ := IRd.cell hr hx
    refine (Try.slices_Clone_int b o l.length cap l w (Nat.le_refl _) (by omega) (fun j hj => ?_)).mono ?_
    · have := IRd.cells hr j l[j] (List.getElem?_eq_getElem hj)
      rw [this]
      simp [hj]
    · rintro e w' ⟨v', rfl, h1, _, h3⟩
      rw [List.take_length] at h1
      exact ⟨_, rfl, OwnI.of_owns h1, h3⟩
end Go.Proofs.Ytjlehnmcfimnfaa
