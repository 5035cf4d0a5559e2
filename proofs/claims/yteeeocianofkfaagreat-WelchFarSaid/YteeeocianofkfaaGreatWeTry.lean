/-
  The message that is looked for through all rising rows: the plain laws.
-/
import Derived.Test.YteeeocianofkfaaGreatWeWrong
namespace Go.Proofs.YteeeocianofkfaaGreat
open Go.RowKit Fld
set_option linter.unusedVariables false
set_option linter.unusedSimpArgs false

noncomputable def rowP (ps : List Int) (r : Nat → Nat) (J : Nat) : List Int := (List.range J).map fun j => ps.getD (r j) 0
noncomputable def rowY (ys : List GF) (r : Nat → Nat) (J : Nat) : List GF := rowF (fun j => ys.getD (r j) 0) J
theorem rowP_len (ps : List Int) (r : Nat → Nat) (J : Nat) : (rowP ps r J).length = J := by simp [rowP]
theorem rowP_succ (ps : List Int) (r : Nat → Nat) (J : Nat) : rowP ps r (J + 1) = rowP ps r J ++ [ps.getD (r J) 0] := by simp [rowP, List.range_succ]
theorem rowP_get (ps : List Int) (r : Nat → Nat) {J i : Nat} (h : i < J) : (rowP ps r J).getD i 0 = ps.getD (r i) 0 := by
  rw [rowP, List.getD_eq_getElem?_getD, List.getElem?_map, List.getElem?_range h]
  rfl
theorem rowP_congr {ps : List Int} {r r' : Nat → Nat} {J : Nat} (h : ∀ j, j < J → r j = r' j) : rowP ps r J = rowP ps r' J := by
  unfold rowP
  exact List.map_congr_left fun i hi => by rw [h i (List.mem_range.1 hi)]
theorem rowY_congr {ys : List GF} {r r' : Nat → Nat} {J : Nat} (h : ∀ j, j < J → r j = r' j) : rowY ys r J = rowY ys r' J := by
  unfold rowY rowF
  exact List.map_congr_left fun i hi => by rw [h i (List.mem_range.1 hi)]
theorem ris_inj {k n : Nat} {r : Nat → Nat} (h : Ris k n r) {i j : Nat} (hi : i < k) (hj : j < k) (e : r i = r j) : i = j := by
  rcases Nat.lt_trichotomy i j with h1 | h1 | h1
  · have := ris_add h i (j - i) (by omega)
    rw [show i + (j - i) = j by omega] at this
    omega
  · exact h1
  · have := ris_add h j (i - j) (by omega)
    rw [show j + (i - j) = i by omega] at this
    omega
section
variable {xs ys : List GF} {ps : List Int} {k t : Nat}
theorem ris_good {N : Nat} {r : Nat → Nat} (hg : GoodP N ps) (h : Ris k ps.length r) : GoodP N (rowP ps r k) := by
  refine ⟨fun x hx => ?_, List.pairwise_map.2 (List.nodup_range.imp_of_mem fun {a b} ha hb hne e => hne ?_)⟩
  · obtain ⟨j, hj, rfl⟩ := List.mem_map.1 hx
    refine hg.1 _ ?_
    rw [List.getD_eq_getElem?_getD, List.getElem?_eq_getElem (h.1 j (List.mem_range.1 hj))]
    exact List.getElem_mem _
  · have ha' := List.mem_range.1 ha
    have hb' := List.mem_range.1 hb
    exact ris_inj h ha' hb' (getI_inj hg.2 (h.1 a ha') (h.1 b hb') e)
theorem fits_rowP {r : Nat → Nat} {m : List GF} : Fits xs k (rowP ps r k) (rowY ys r k) m ↔ m.length = k ∧ ∀ j, j < k → ev m (xs.getD (ps.getD (r j) 0).toNat 0) = ys.getD (r j) 0 := by
  unfold Fits
  rw [rowP_len]
  constructor
  · rintro ⟨h1, h2⟩
    refine ⟨h1, fun j hj => ?_⟩
    have := h2 j hj
    rw [rowP_get _ _ hj, rowY, rowF_get _ hj] at this
    exact this
  · rintro ⟨h1, h2⟩
    refine ⟨h1, fun j hj => ?_⟩
    rw [rowP_get _ _ hj, rowY, rowF_get _ hj]
    exact h2 j hj
/-- With K symbols there always is one. -/
theorem fits_ex {r : Nat → Nat} (hn : xs.Nodup) (hg : GoodP xs.length ps) (h : Ris k ps.length r) : ∃ m, Fits xs k (rowP ps r k) (rowY ys r k) m := by
  obtain ⟨p, hp, hq⟩ := through ((List.range k).map fun j => (xs.getD (ps.getD (r j) 0).toNat 0, ys.getD (r j) 0)) (by
    rw [List.map_map]
    refine List.pairwise_map.2 (List.nodup_range.imp_of_mem fun {a c} ha hc hne e => hne ?_)
    have ha' := List.mem_range.1 ha
    have hc' := List.mem_range.1 hc
    have h1 : ∀ j, j < k → 0 ≤ ps.getD (r j) 0 ∧ ps.getD (r j) 0 < (xs.length : Int) := fun j hj => hg.1 _ (by
      rw [List.getD_eq_getElem?_getD, List.getElem?_eq_getElem (h.1 j hj)]
      exact List.getElem_mem _)
    have ha2 := h1 a ha'
    have hc2 := h1 c hc'
    have h2 := getD_inj hn (i := (ps.getD (r a) 0).toNat) (j := (ps.getD (r c) 0).toNat) (by omega) (by omega) e
    exact ris_inj h ha' hc' (getI_inj hg.2 (h.1 a ha') (h.1 c hc') (by omega)))
  refine ⟨p, fits_rowP.2 ⟨by rw [hp]; simp, fun i hi => ?_⟩⟩
  exact hq _ (List.mem_map.2 ⟨i, List.mem_range.2 hi, rfl⟩)
/-- The row tells no message of which so few symbols are wrong. -/
def FailR (xs : List GF) (ps : List Int) (ys : List GF) (k t : Nat) (r : Nat → Nat) : Prop := ∀ m, Fits xs k (rowP ps r k) (rowY ys r k) m → ¬ (wrS xs ps ys m).length ≤ t
theorem fail_congr {r r' : Nat → Nat} (h : ∀ j, j < k → r j = r' j) (hf : FailR xs ps ys k t r') : FailR xs ps ys k t r := by
  intro m hm
  rw [rowP_congr h, rowY_congr h] at hm
  exact hf m hm
theorem fail_one {r : Nat → Nat} {m : List GF} (hn : xs.Nodup) (hg : GoodP xs.length ps) (h : Ris k ps.length r) (hm : Fits xs k (rowP ps r k) (rowY ys r k) m) (hw : ¬ (wrS xs ps ys m).length ≤ t) : FailR xs ps ys k t r := by
  intro m' hm'
  rw [fits_one hn (ris_good hg h) (by rw [rowP_len]; exact Nat.le_refl _) hm' hm]
  exact hw
theorem all_fail (hk : k + t ≤ ps.length) (h : ∀ r, Ris k ps.length r → FailR xs ps ys k t r) : WeTells xs k ps ys t none := by
  intro m hm hw
  have hw' := hw
  rw [wrS_len] at hw'
  obtain ⟨r, hr, hf⟩ := right_ris hw' (by rw [pts_len]; exact hk)
  rw [pts_len] at hr
  refine h r hr m (fits_rowP.2 ⟨hm, fun j hj => ?_⟩) hw
  have := hf j hj
  rwa [pts_get xs (hr.1 j hj)] at this
end
end Go.Proofs.YteeeocianofkfaaGreat
