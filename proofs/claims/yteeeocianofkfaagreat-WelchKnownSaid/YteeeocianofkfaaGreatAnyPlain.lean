/-
  Symbols of a word that are told, one of them perhaps another one.
-/
import Derived.Test.YteeeocianofkfaaGreatDec3
import Derived.Test.YteeeocianofkfaaGreatKit
namespace Go.Proofs.YteeeocianofkfaaGreat
open Go.RowKit Fld
set_option linter.unusedVariables false
set_option linter.unusedSimpArgs false

/-- Numbers, the last one first. -/
def rvN (l : List Nat) (j : Nat) : Nat := l.getD (l.length - 1 - j) 0
theorem rvN_mem {l : List Nat} {j : Nat} (h : j < l.length) : rvN l j ∈ l := by
  unfold rvN
  rw [List.getD_eq_getElem?_getD, List.getElem?_eq_getElem (by omega), Option.getD_some]
  exact List.getElem_mem _
theorem rvN_inj {l : List Nat} (hn : l.Nodup) {i j : Nat} (hi : i < l.length) (hj : j < l.length) (h : rvN l i = rvN l j) : i = j := by
  unfold rvN at h
  rw [List.getD_eq_getElem?_getD, List.getElem?_eq_getElem (by omega), List.getD_eq_getElem?_getD, List.getElem?_eq_getElem (by omega), Option.getD_some, Option.getD_some] at h
  have := (List.getElem_inj hn).1 h
  omega
/-- Such numbers as a row of ints. -/
def rvI (l : List Nat) (J : Nat) : List Int := (List.range J).map fun j => ((rvN l j : Nat) : Int)
theorem rvI_len (l : List Nat) (J : Nat) : (rvI l J).length = J := by simp [rvI]
theorem rvI_succ (l : List Nat) (J : Nat) : rvI l (J + 1) = rvI l J ++ [((rvN l J : Nat) : Int)] := by simp [rvI, List.range_succ]
theorem rvI_get (l : List Nat) {J i : Nat} (h : i < J) : (rvI l J).getD i 0 = ((rvN l i : Nat) : Int) := by
  rw [List.getD_eq_getElem?_getD, rvI, List.getElem?_map, List.getElem?_range h]
  rfl
theorem rvI_good {N : Nat} {l : List Nat} (h : RiseTo N l) : GoodP N (rvI l l.length) := by
  refine ⟨fun x hx => ?_, List.pairwise_map.2 (List.nodup_range.imp_of_mem fun {a b} ha hb hne e => hne ?_)⟩
  · obtain ⟨j, hj, rfl⟩ := List.mem_map.1 hx
    have := h.2 _ (rvN_mem (List.mem_range.1 hj))
    omega
  · have ha' := List.mem_range.1 ha
    have hb' := List.mem_range.1 hb
    exact rvN_inj h.nodup ha' hb' (by omega)
/-- A row told off by a function. -/
def rowF (f : Nat → GF) (J : Nat) : List GF := (List.range J).map f
theorem rowF_len (f : Nat → GF) (J : Nat) : (rowF f J).length = J := by simp [rowF]
theorem rowF_succ (f : Nat → GF) (J : Nat) : rowF f (J + 1) = rowF f J ++ [f J] := by simp [rowF, List.range_succ]
theorem rowF_get (f : Nat → GF) {J i : Nat} (h : i < J) : (rowF f J).getD i 0 = f i := by
  rw [List.getD_eq_getElem?_getD, rowF, List.getElem?_map, List.getElem?_range h]
  rfl
theorem View.rowF {w : World} {b N : Nat} {g : Nat → GF} (h : View w b N g) {cap : Nat} (hc : N ≤ cap) : GRd w (.slice (some ⟨b, 0, none⟩) N cap) (rowF g N) := by
  have := h.rd (o := 0) (m := N) (by omega) hc
  unfold Go.Proofs.YteeeocianofkfaaGreat.rowF
  simpa using this
/-- A row whose cells are known. -/
theorem View.list {w : World} {b N : Nat} {l : List GF} (h : View w b N (fun i => l.getD i 0)) (hl : l.length = N) {cap : Nat} (hc : N ≤ cap) : GRd w (.slice (some ⟨b, 0, none⟩) N cap) l := by
  have := h.rowF hc
  have e : Go.Proofs.YteeeocianofkfaaGreat.rowF (fun i => l.getD i 0) N = l := by
    subst hl
    refine List.ext_getElem (by simp [Go.Proofs.YteeeocianofkfaaGreat.rowF]) fun i h1 h2 => ?_
    simp [Go.Proofs.YteeeocianofkfaaGreat.rowF, List.getElem?_eq_getElem h2]
  rwa [e] at this
theorem fits_row {xs m : List GF} {k L : Nat} {l : List Nat} {f : Nat → GF} : Fits xs k (rvI l L) (rowF f L) m ↔ m.length = k ∧ ∀ i, i < L → ev m (xs.getD (rvN l i) 0) = f i := by
  unfold Fits
  rw [rvI_len]
  refine ⟨fun h => ⟨h.1, fun i hi => ?_⟩, fun h => ⟨h.1, fun i hi => ?_⟩⟩
  · have := h.2 i hi
    rw [rvI_get l hi, rowF_get f hi] at this
    simpa using this
  · rw [rvI_get l hi, rowF_get f hi]
    simpa using h.2 i hi
/-- What 'Decode' answers of places that may be and of symbols that are enough. -/
theorem dec_good {fb k : Nat} {xs ys : List GF} {ps : List Int} {w w' : World} {e : Ending} (h : DecPost fb xs k ps ys w e w') (hg : GoodP xs.length ps) (hl : ps.length = ys.length) (hk : k ≤ ps.length) :
    Kp [fb] w w' ∧ FOk w' fb ∧ ((∃ g m, e = .returned (.tuple #[.slice (some ⟨g, 0, none⟩) k k, .int .i64 0]) ∧ w.heap.size ≤ g ∧ View w' g k (fun i => m.getD i 0) ∧ Fits xs k ps ys m) ∨
      e = .returned (.tuple #[.slice none 0 0, .int .i64 71]) ∧ ∀ m, ¬ Fits xs k ps ys m) := by
  obtain ⟨h1, h2, h3⟩ := h
  rcases h3 with ⟨h4, _⟩ | ⟨_, ⟨h5, _⟩ | ⟨_, h5⟩⟩
  · exact absurd hg (h4 hl)
  · omega
  · exact ⟨h1, h2, h5⟩
theorem dec_few {fb k : Nat} {xs ys : List GF} {ps : List Int} {w w' : World} {e : Ending} (h : DecPost fb xs k ps ys w e w') (hg : GoodP xs.length ps) (hl : ps.length = ys.length) (hk : ps.length < k) :
    Kp [fb] w w' ∧ FOk w' fb ∧ e = .returned (.tuple #[.slice none 0 0, .int .i64 70]) := by
  obtain ⟨h1, h2, h3⟩ := h
  rcases h3 with ⟨h4, _⟩ | ⟨_, ⟨h5, rfl⟩ | ⟨h5, _⟩⟩
  · exact absurd hg (h4 hl)
  · exact ⟨h1, h2, rfl⟩
  · omega
/-- The symbols of a word tell its message. -/
theorem dec_told {fb k : Nat} {xs ys m : List GF} {ps : List Int} {w w' : World} {e : Ending} (h : DecPost fb xs k ps ys w e w') (hn : xs.Nodup) (hg : GoodP xs.length ps) (hl : ps.length = ys.length) (hk : k ≤ ps.length) (hf : Fits xs k ps ys m) :
    Kp [fb] w w' ∧ FOk w' fb ∧ ∃ g, e = .returned (.tuple #[.slice (some ⟨g, 0, none⟩) k k, .int .i64 0]) ∧ w.heap.size ≤ g ∧ GRd w' (.slice (some ⟨g, 0, none⟩) k k) m := by
  obtain ⟨h1, h2, ⟨g, m', rfl, h3, h4, h5⟩ | ⟨_, h3⟩⟩ := dec_good h hg hl hk
  · obtain rfl := fits_one hn hg hk h5 hf
    exact ⟨h1, h2, g, rfl, h3, h4.list hf.1 (Nat.le_refl _)⟩
  · exact absurd hf (h3 m)
/-- A row with one symbol another one. -/
noncomputable def othF (f : Nat → GF) (i : Nat) (b : GF) : Nat → GF := fun j => if j = i then f i + b else f j
theorem othF_zero (f : Nat → GF) (i : Nat) : othF f i 0 = f := by
  funext j
  unfold othF
  by_cases h : j = i
  · rw [if_pos h, addz, h]
  · rw [if_neg h]
/-- With more than K symbols of which one is another one there is no word. -/
theorem oth_none {xs m : List GF} {k : Nat} {l : List Nat} {i : Nat} {b : GF} (hn : xs.Nodup) (hr : RiseTo xs.length l) (hm : m.length = k) (hi : i < l.length) (hk : k < l.length) (hb : b ≠ 0) (m' : List GF) :
    ¬ Fits xs k (rvI l l.length) (rowF (othF (fun j => ev m (xs.getD (rvN l j) 0)) i b) l.length) m' := by
  intro h
  obtain ⟨h1, h2⟩ := fits_row.1 h
  have hp : (((List.range l.length).erase i).map fun j => xs.getD (rvN l j) 0).Nodup := by
    refine List.pairwise_map.2 ((List.nodup_range.erase _).imp_of_mem fun {a c} ha hc hne e => hne ?_)
    have ha' := List.mem_range.1 (List.mem_of_mem_erase ha)
    have hc' := List.mem_range.1 (List.mem_of_mem_erase hc)
    exact rvN_inj hr.nodup ha' hc' (getD_inj hn (hr.2 _ (rvN_mem ha')) (hr.2 _ (rvN_mem hc')) e)
  have e : m' = m := by
    refine ev_inj hp (h1.trans hm.symm) ?_ fun z hz => ?_
    · rw [List.length_map, List.length_erase_of_mem (List.mem_range.2 hi), List.length_range, h1]
      omega
    · obtain ⟨j, hj, rfl⟩ := List.mem_map.1 hz
      have hne : j ≠ i := ((List.nodup_range.mem_erase_iff).1 hj).1
      have := h2 j (List.mem_range.1 (List.mem_of_mem_erase hj))
      rw [this, othF, if_neg hne]
  subst e
  have := h2 i hi
  rw [othF, if_pos rfl] at this
  exact hb (add_cancel (a := ev m' (xs.getD (rvN l i) 0)) (by rw [← this, addz]))
/-- With K symbols there always is one. -/
theorem some_fits {xs : List GF} {k : Nat} {l : List Nat} {f : Nat → GF} (hn : xs.Nodup) (hr : RiseTo xs.length l) (hk : l.length = k) : ∃ m, Fits xs k (rvI l l.length) (rowF f l.length) m := by
  obtain ⟨p, hp, hq⟩ := through ((List.range l.length).map fun j => (xs.getD (rvN l j) 0, f j)) (by
    rw [List.map_map]
    refine List.pairwise_map.2 (List.nodup_range.imp_of_mem fun {a c} ha hc hne e => hne ?_)
    have ha' := List.mem_range.1 ha
    have hc' := List.mem_range.1 hc
    exact rvN_inj hr.nodup ha' hc' (getD_inj hn (hr.2 _ (rvN_mem ha')) (hr.2 _ (rvN_mem hc')) e))
  refine ⟨p, fits_row.2 ⟨by rw [hp]; simp [hk], fun i hi => ?_⟩⟩
  exact hq _ (List.mem_map.2 ⟨i, List.mem_range.2 hi, rfl⟩)
theorem oth_ne {xs m m' : List GF} {k : Nat} {l : List Nat} {i : Nat} {b : GF} (hi : i < l.length) (hb : b ≠ 0)
    (h : Fits xs k (rvI l l.length) (rowF (othF (fun j => ev m (xs.getD (rvN l j) 0)) i b) l.length) m') : m' ≠ m := by
  rintro rfl
  have := (fits_row.1 h).2 i hi
  rw [othF, if_pos rfl] at this
  exact hb (add_cancel (a := ev m' (xs.getD (rvN l i) 0)) (by rw [← this, addz]))
/-- What the second 'Decode' of the law answers. -/
def OthPost (fb k L : Nat) (b : GF) (m : List GF) (w : World) (e : Ending) (w' : World) : Prop :=
  Kp [fb] w w' ∧ FOk w' fb ∧ ((b = 0 ∨ L = k) ∧ (∃ g m', e = .returned (.tuple #[.slice (some ⟨g, 0, none⟩) k k, .int .i64 0]) ∧ w.heap.size ≤ g ∧ GRd w' (.slice (some ⟨g, 0, none⟩) k k) m' ∧ (m' = m ↔ b = 0)) ∨
    ¬ (b = 0 ∨ L = k) ∧ e = .returned (.tuple #[.slice none 0 0, .int .i64 71]))
theorem oth_post {fb k : Nat} {xs m : List GF} {l : List Nat} {i : Nat} {b : GF} {w w' : World} {e : Ending} (hn : xs.Nodup) (hr : RiseTo xs.length l) (hm : m.length = k) (hi : i < l.length) (hk : k ≤ l.length)
    (h : DecPost fb xs k (rvI l l.length) (rowF (othF (fun j => ev m (xs.getD (rvN l j) 0)) i b) l.length) w e w') : OthPost fb k l.length b m w e w' := by
  have hg := rvI_good hr
  have hlen : (rvI l l.length).length = (rowF (othF (fun j => ev m (xs.getD (rvN l j) 0)) i b) l.length).length := by rw [rvI_len, rowF_len]
  have hk' : k ≤ (rvI l l.length).length := by rw [rvI_len]; exact hk
  by_cases hb : b = 0
  · subst hb
    have hf : Fits xs k (rvI l l.length) (rowF (othF (fun j => ev m (xs.getD (rvN l j) 0)) i 0) l.length) m := fits_row.2 ⟨hm, fun j hj => by rw [othF_zero]⟩
    obtain ⟨h1, h2, g, rfl, h3, h4⟩ := dec_told h hn hg hlen hk' hf
    exact ⟨h1, h2, .inl ⟨.inl rfl, g, m, rfl, h3, h4, by simp⟩⟩
  · by_cases hL : l.length = k
    · obtain ⟨m', hm'⟩ := some_fits (f := othF (fun j => ev m (xs.getD (rvN l j) 0)) i b) hn hr hL
      obtain ⟨h1, h2, g, rfl, h3, h4⟩ := dec_told h hn hg hlen hk' hm'
      exact ⟨h1, h2, .inl ⟨.inr hL, g, m', rfl, h3, h4, by simp [hb, oth_ne hi hb hm']⟩⟩
    · obtain ⟨h1, h2, ⟨g, m', rfl, h3, h4, h5⟩ | ⟨rfl, h3⟩⟩ := dec_good h hg hlen hk'
      · exact absurd h5 (oth_none hn hr hm hi (by omega) hb m')
      · exact ⟨h1, h2, .inr ⟨by simp [hb, hL], rfl⟩⟩
theorem app_ints {W : World} {B : Nat} {V : Value} {l : List Nat} {J : Nat} (h : OwnZ W B V (rvI l J)) (hJ : J ≤ 1000000) (hb : B ≤ W.heap.size) {x : Nat} (hx : rvN l J = x) {ad : Nat} (had : ad = W.heap.size) :
    ∃ v1 w3, (Builtin.append_ #[27, 27] 27 #[V, .slice (some ⟨ad, 0, none⟩) 1 1]).run Tryz.prog (W.alloc (.cells #[.int .i64 (x : Int)] 3)) = .ok v1 w3 ∧
      OwnZ w3 B v1 (rvI l (J + 1)) ∧ Kp V.ownBlock.toList W w3 ∧ Below B W w3 ∧ (v1.ownBlock = V.ownBlock ∨ v1.ownBlock = some (W.heap.size + 1)) := by
  obtain ⟨v1, w3, h1, h2, h3⟩ := app_int (x : Int) h (by rw [rvI_len]; exact hJ) hb had
  exact ⟨v1, w3, h1, by rw [rvI_succ, hx]; exact h2, h3⟩
theorem app_row {W : World} {B : Nat} {V : Value} {f : Nat → GF} {J : Nat} (h : OwnG W B V (rowF f J)) (hJ : J ≤ 1000000) (hb : B ≤ W.heap.size) {n : Nat} (hn : (f J).n = n) {ad : Nat} (had : ad = W.heap.size) :
    ∃ v1 w3, (Builtin.append_ #[22, 22] 22 #[V, .slice (some ⟨ad, 0, none⟩) 1 1]).run Tryz.prog (W.alloc (.cells #[.int .u8 (n : Int)] 5)) = .ok v1 w3 ∧
      OwnG w3 B v1 (rowF f (J + 1)) ∧ Kp V.ownBlock.toList W w3 ∧ Below B W w3 ∧ (v1.ownBlock = V.ownBlock ∨ v1.ownBlock = some (W.heap.size + 1)) := by
  obtain ⟨v1, w3, h1, h2, h3⟩ := app_byte (f J) h (by rw [rowF_len]; exact hJ) hb hn had
  exact ⟨v1, w3, h1, by rw [rowF_succ]; exact h2, h3⟩
/-- Two rows that both grow stay apart. -/
theorem apart_grow {V V' v1 : Value} {n : Nat} (h : Apart V' V.ownBlock.toList) (hn : ∀ k, V'.ownBlock = some k → k < n) (h1 : v1.ownBlock = V.ownBlock ∨ v1.ownBlock = some (n + 1)) : Apart V' v1.ownBlock.toList := by
  rcases h1 with h1 | h1
  · rw [h1]; exact h
  · rw [h1]
    intro k hk hm
    have := hn k hk
    simp at hm
    omega
theorem apart_swap {V V' : Value} (h : Apart V' V.ownBlock.toList) : Apart V V'.ownBlock.toList := fun k hk hm => h k (by simpa using hm) (by simpa using hk)
end Go.Proofs.YteeeocianofkfaaGreat
