/-
  The places of wrong symbols, rising: the plain laws.
-/
import Derived.Test.YteeeocianofkfaaGreatWeNext
namespace Go.Proofs.YteeeocianofkfaaGreat
open Go.RowKit Fld
set_option linter.unusedVariables false
set_option linter.unusedSimpArgs false

theorem strict_eq : ∀ {a b : List Int}, a.Pairwise (· < ·) → b.Pairwise (· < ·) → (∀ x, x ∈ a ↔ x ∈ b) → a = b
  | [], [], _, _, _ => rfl
  | [], y :: b, _, _, h => by have := (h y).2 (by simp); cases this
  | x :: a, [], _, _, h => by have := (h x).1 (by simp); cases this
  | x :: a, y :: b, ha, hb, h => by
    rw [List.pairwise_cons] at ha hb
    have e : x = y := by
      have h1 := (h x).1 (by simp)
      have h2 := (h y).2 (by simp)
      rcases List.mem_cons.1 h1 with h1 | h1
      · exact h1
      · rcases List.mem_cons.1 h2 with h2 | h2
        · exact h2.symm
        · have := ha.1 _ h2
          have := hb.1 _ h1
          omega
    subst e
    have ih := strict_eq ha.2 hb.2 fun z => by
      constructor
      · intro hz
        rcases List.mem_cons.1 ((h z).1 (List.mem_cons_of_mem _ hz)) with e | e
        · have := ha.1 _ hz; omega
        · exact e
      · intro hz
        rcases List.mem_cons.1 ((h z).2 (List.mem_cons_of_mem _ hz)) with e | e
        · have := hb.1 _ hz; omega
        · exact e
    rw [ih]
/-- Rising. -/
def riseI (l : List Int) : List Int := l.mergeSort fun x y => decide (x ≤ y)
theorem riseI_perm (l : List Int) : (riseI l).Perm l := List.mergeSort_perm _ _
theorem riseI_len (l : List Int) : (riseI l).length = l.length := (riseI_perm l).length_eq
theorem riseI_mem {l : List Int} {x : Int} : x ∈ riseI l ↔ x ∈ l := (riseI_perm l).mem_iff
theorem riseI_lt {l : List Int} (h : l.Nodup) : (riseI l).Pairwise (· < ·) := by
  have h1 : (riseI l).Pairwise fun a b => decide (a ≤ b) = true := List.pairwise_mergeSort (fun a b c h1 h2 => by simp only [decide_eq_true_eq] at *; omega) (fun a b => by simp only [Bool.or_eq_true, decide_eq_true_eq]; omega) l
  have h2 : (riseI l).Pairwise (· ≠ ·) := (riseI_perm l).nodup_iff.2 h
  refine List.Pairwise.imp ?_ (List.pairwise_and_iff.2 ⟨h1, h2⟩)
  rintro a b ⟨h3, h4⟩
  simp only [decide_eq_true_eq] at h3
  have : a ≠ b := h4
  omega
theorem riseI_self {l : List Int} (h : l.Pairwise (· < ·)) : riseI l = l :=
  strict_eq (riseI_lt (h.imp fun {a b} hab => by have : a < b := hab; omega)) h fun _ => riseI_mem
/-- The places of wrong symbols, as they are told. -/
noncomputable def wrP (xs : List GF) (ps : List Int) (ys m : List GF) : List Int := (wrI (ptsOf xs ps) ys m).map fun i => ps.getD i 0
noncomputable def wrS (xs : List GF) (ps : List Int) (ys m : List GF) : List Int := riseI (wrP xs ps ys m)
theorem pts_len (xs : List GF) (ps : List Int) : (ptsOf xs ps).length = ps.length := by simp [ptsOf]
theorem pts_get (xs : List GF) {ps : List Int} {i : Nat} (h : i < ps.length) : (ptsOf xs ps).getD i 0 = xs.getD (ps.getD i 0).toNat 0 := by
  unfold ptsOf
  rw [List.getD_eq_getElem?_getD, List.getElem?_map, List.getD_eq_getElem?_getD (l := ps), List.getElem?_eq_getElem h]
  rfl
theorem wrS_len (xs : List GF) (ps : List Int) (ys m : List GF) : (wrS xs ps ys m).length = (wrI (ptsOf xs ps) ys m).length := by rw [wrS, riseI_len, wrP, List.length_map]
theorem getI_inj {l : List Int} (hn : l.Nodup) {i j : Nat} (hi : i < l.length) (hj : j < l.length) (h : l.getD i 0 = l.getD j 0) : i = j := by
  rw [List.getD_eq_getElem?_getD, List.getElem?_eq_getElem hi, List.getD_eq_getElem?_getD, List.getElem?_eq_getElem hj] at h
  simp only [Option.getD_some] at h
  rcases Nat.lt_trichotomy i j with e | e | e
  · exact absurd h (List.pairwise_iff_getElem.1 hn i j hi hj e)
  · exact e
  · exact absurd h.symm (List.pairwise_iff_getElem.1 hn j i hj hi e)
theorem wrP_nodup {xs : List GF} {ps : List Int} (ys m : List GF) (hg : ps.Nodup) : (wrP xs ps ys m).Nodup :=
  List.pairwise_map.2 ((wrI_nodup _ ys m).imp_of_mem fun {a b} ha hb hne e => hne (by
    have h1 := (mem_wrI.1 ha).1
    have h2 := (mem_wrI.1 hb).1
    rw [pts_len] at h1 h2
    exact getI_inj hg h1 h2 e))
theorem mem_wrS {xs : List GF} {ps : List Int} {ys m : List GF} {x : Int} : x ∈ wrS xs ps ys m ↔ ∃ i, i < ps.length ∧ ev m (xs.getD (ps.getD i 0).toNat 0) ≠ ys.getD i 0 ∧ x = ps.getD i 0 := by
  rw [wrS, riseI_mem, wrP, List.mem_map]
  constructor
  · rintro ⟨i, hi, rfl⟩
    obtain ⟨h1, h2⟩ := mem_wrI.1 hi
    rw [pts_len] at h1
    rw [pts_get xs h1] at h2
    exact ⟨i, h1, h2, rfl⟩
  · rintro ⟨i, h1, h2, rfl⟩
    exact ⟨i, mem_wrI.2 ⟨by rw [pts_len]; exact h1, by rw [pts_get xs h1]; exact h2⟩, rfl⟩
/-- As the reference finds them. -/
noncomputable def inR (ps : List Int) (W ys : List GF) (p i : Nat) : List Int := ((List.range i).filter fun i => decide (ps.getD i 0 = (p : Int)) && decide (W.getD p 0 ≠ ys.getD i 0)).map fun _ => (p : Int)
noncomputable def wrR (ps : List Int) (W ys : List GF) (p : Nat) : List Int := (List.range p).flatMap fun p => inR ps W ys p ps.length
theorem inR_zero (ps : List Int) (W ys : List GF) (p : Nat) : inR ps W ys p 0 = [] := rfl
theorem inR_yes {ps : List Int} {W ys : List GF} {p i : Nat} (h1 : ps.getD i 0 = (p : Int)) (h2 : W.getD p 0 ≠ ys.getD i 0) : inR ps W ys p (i + 1) = inR ps W ys p i ++ [(p : Int)] := by
  unfold inR
  rw [List.range_succ, List.filter_append, List.map_append, List.filter_cons_of_pos (by rw [decide_eq_true h1, decide_eq_true h2]; rfl)]
  rfl
theorem inR_no {ps : List Int} {W ys : List GF} {p i : Nat} (h : ps.getD i 0 = (p : Int) → W.getD p 0 = ys.getD i 0) : inR ps W ys p (i + 1) = inR ps W ys p i := by
  unfold inR
  rw [List.range_succ, List.filter_append, List.map_append, List.filter_cons_of_neg (by
    rw [Bool.and_eq_true, decide_eq_true_eq, decide_eq_true_eq]
    exact fun h2 => h2.2 (h h2.1))]
  simp
theorem wrR_zero (ps : List Int) (W ys : List GF) : wrR ps W ys 0 = [] := rfl
theorem wrR_succ (ps : List Int) (W ys : List GF) (p : Nat) : wrR ps W ys (p + 1) = wrR ps W ys p ++ inR ps W ys p ps.length := by
  unfold wrR
  rw [List.range_succ, List.flatMap_append]
  simp
theorem mem_inR {ps : List Int} {W ys : List GF} {p n : Nat} {x : Int} : x ∈ inR ps W ys p n ↔ x = (p : Int) ∧ ∃ i, i < n ∧ ps.getD i 0 = (p : Int) ∧ W.getD p 0 ≠ ys.getD i 0 := by
  unfold inR
  rw [List.mem_map]
  constructor
  · rintro ⟨i, hi, rfl⟩
    obtain ⟨h1, h2⟩ := List.mem_filter.1 hi
    rw [Bool.and_eq_true, decide_eq_true_eq, decide_eq_true_eq] at h2
    exact ⟨rfl, i, List.mem_range.1 h1, h2⟩
  · rintro ⟨rfl, i, h1, h2, h3⟩
    exact ⟨i, List.mem_filter.2 ⟨List.mem_range.2 h1, by rw [decide_eq_true h2, decide_eq_true h3]; rfl⟩, rfl⟩
theorem inR_one {ps : List Int} (W ys : List GF) (p : Nat) (hn : ps.Nodup) : (inR ps W ys p ps.length).Pairwise (· < ·) := by
  unfold inR
  refine List.pairwise_map.2 ((List.pairwise_lt_range.filter _).imp_of_mem fun {a b} ha hb hab => ?_)
  exfalso
  obtain ⟨h1, h2⟩ := List.mem_filter.1 ha
  obtain ⟨h3, h4⟩ := List.mem_filter.1 hb
  rw [Bool.and_eq_true, decide_eq_true_eq] at h2 h4
  have := getI_inj hn (List.mem_range.1 h1) (List.mem_range.1 h3) (h2.1.trans h4.1.symm)
  omega
theorem wrR_lt {ps : List Int} (W ys : List GF) (hn : ps.Nodup) : ∀ p, (wrR ps W ys p).Pairwise (· < ·) ∧ ∀ x ∈ wrR ps W ys p, x < (p : Int)
  | 0 => ⟨List.Pairwise.nil, fun x hx => by cases hx⟩
  | p + 1 => by
    obtain ⟨h1, h2⟩ := wrR_lt W ys hn p
    rw [wrR_succ]
    refine ⟨List.pairwise_append.2 ⟨h1, inR_one W ys p hn, fun a ha b hb => ?_⟩, fun x hx => ?_⟩
    · rw [(mem_inR.1 hb).1]
      exact h2 a ha
    · rcases List.mem_append.1 hx with h | h
      · have := h2 x h; omega
      · rw [(mem_inR.1 h).1]; omega
theorem mem_wrR {ps : List Int} {W ys : List GF} {x : Int} : ∀ {n : Nat}, x ∈ wrR ps W ys n ↔ ∃ p, p < n ∧ x = (p : Int) ∧ ∃ i, i < ps.length ∧ ps.getD i 0 = (p : Int) ∧ W.getD p 0 ≠ ys.getD i 0 := by
  intro n
  unfold wrR
  rw [List.mem_flatMap]
  constructor
  · rintro ⟨p, hp, hx⟩
    exact ⟨p, List.mem_range.1 hp, mem_inR.1 hx⟩
  · rintro ⟨p, hp, hx⟩
    exact ⟨p, List.mem_range.2 hp, mem_inR.2 hx⟩
/-- The reference's are the program's. -/
theorem wrR_wrS {xs : List GF} {ps : List Int} (ys m : List GF) (hg : GoodP xs.length ps) : wrR ps (xs.map (ev m)) ys xs.length = wrS xs ps ys m := by
  refine strict_eq (wrR_lt _ ys hg.2 _).1 (riseI_lt (wrP_nodup ys m hg.2)) fun x => ?_
  have hev : ∀ p, p < xs.length → (xs.map (ev m)).getD p 0 = ev m (xs.getD p 0) := fun p hp => by
    rw [List.getD_eq_getElem?_getD, List.getElem?_map, List.getD_eq_getElem?_getD (l := xs), List.getElem?_eq_getElem hp]
    rfl
  refine Iff.trans mem_wrR (Iff.trans ?_ (mem_wrS (xs := xs) (ps := ps) (ys := ys) (m := m)).symm)
  constructor
  · rintro ⟨p, hp, rfl, i, h1, h2, h3⟩
    rw [hev p hp] at h3
    exact ⟨i, h1, by rw [h2, Int.toNat_natCast]; exact h3, h2.symm⟩
  · rintro ⟨i, h1, h2, rfl⟩
    have hb := hg.1 (ps.getD i 0) (by rw [List.getD_eq_getElem?_getD, List.getElem?_eq_getElem h1]; exact List.getElem_mem _)
    refine ⟨(ps.getD i 0).toNat, by omega, by omega, i, h1, by omega, ?_⟩
    rw [hev _ (by omega)]
    exact h2
/-- What a word of which few symbols are wrong is told as. -/
def WeTells (xs : List GF) (k : Nat) (ps : List Int) (ys : List GF) (t : Nat) (r : Option (List GF)) : Prop :=
  match r with
  | some m => m.length = k ∧ (wrS xs ps ys m).length ≤ t
  | none => ∀ m : List GF, m.length = k → ¬ (wrS xs ps ys m).length ≤ t
theorem weTells_one {xs : List GF} {k t : Nat} {ps : List Int} {ys : List GF} {r r' : Option (List GF)} (hn : xs.Nodup) (hg : GoodP xs.length ps) (hk : k + 2 * t ≤ ps.length) (h : WeTells xs k ps ys t r) (h' : WeTells xs k ps ys t r') : r = r' := by
  cases r with
  | none => cases r' with
    | none => rfl
    | some m => exact absurd h'.2 (h m h'.1)
  | some m => cases r' with
    | none => exact absurd h.2 (h' m h.1)
    | some m' =>
      have h1 := h.2
      have h2 := h'.2
      rw [wrS_len] at h1 h2
      exact congrArg some (wr_one (pts_nodup hn hg) h.1 h'.1 h1 h2 (by rw [pts_len]; exact hk))
end Go.Proofs.YteeeocianofkfaaGreat
