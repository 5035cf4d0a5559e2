/-
  The law WelchFar.
-/
import Derived.Test.YteeeocianofkfaaGreatWork8
namespace Go.Proofs.YteeeocianofkfaaGreat
open Go.RowKit Fld
set_option linter.unusedVariables false
set_option linter.unusedSimpArgs false

set_option maxRecDepth 100000 in
set_option maxHeartbeats 4000000 in
theorem lfar_any (u v t : Value) (l m n : List GF) (w : World) (hu : GRd w u l) (hv : GRd w v m) (ht : GRd w t n) :
    Calls Tryz.prog 3 #[u, v, t] w fun e w' => e = .returned (.bool true) ∧ Below w.heap.size w w' := by
  obtain ⟨au, cu, rfl, -⟩ := hu.form
  obtain ⟨av, cv, rfl, -⟩ := hv.form
  obtain ⟨at', ct, rfl, -⟩ := ht.form
  obtain ⟨A, hA⟩ : ∃ A, l.length = A := ⟨_, rfl⟩
  obtain ⟨B, hB⟩ : ∃ B, m.length = B := ⟨_, rfl⟩
  obtain ⟨C, hC⟩ : ∃ C, n.length = C := ⟨_, rfl⟩
  have HA := Lib.hid hA
  have HB := Lib.hid hB
  have HC := Lib.hid hC
  rw [hA] at hu ⊢
  rw [hB] at hv ⊢
  rw [hC] at ht ⊢
  have HU := Lib.hid hu
  have HV := Lib.hid hv
  have HT := Lib.hid ht
  clear hu hv ht hA hB hC
  go_enter Tryz.func3, Tryz.ntmps3
  by_cases h1 : 200 < A
  · have h1' : (200 : Int) < (A : Int) := by omega
    go_wp2_with fail
    refine (works_any _).mono ?_
    rintro e wz ⟨rfl, hbz⟩
    have HBZ := Lib.hid hbz
    clear hbz
    go_wp2
    go_ret
    exact ⟨rfl, HBZ.out⟩
  by_cases h2 : 200 < B
  · have h1' : ¬ (200 : Int) < (A : Int) := by omega
    have h2' : (200 : Int) < (B : Int) := by omega
    go_wp2_with fail
    refine (works_any _).mono ?_
    rintro e wz ⟨rfl, hbz⟩
    have HBZ := Lib.hid hbz
    clear hbz
    go_wp2
    go_ret
    exact ⟨rfl, HBZ.out⟩
  by_cases h3 : 200 < C
  · have h1' : ¬ (200 : Int) < (A : Int) := by omega
    have h2' : ¬ (200 : Int) < (B : Int) := by omega
    have h3' : (200 : Int) < (C : Int) := by omega
    go_wp2_with fail
    refine (works_any _).mono ?_
    rintro e wz ⟨rfl, hbz⟩
    have HBZ := Lib.hid hbz
    clear hbz
    go_wp2
    go_ret
    exact ⟨rfl, HBZ.out⟩
  have h1' : ¬ (200 : Int) < (A : Int) := by omega
  have h2' : ¬ (200 : Int) < (B : Int) := by omega
  have h3' : ¬ (200 : Int) < (C : Int) := by omega
  obtain ⟨x, hx⟩ : ∃ x, farU l m = x := ⟨_, rfl⟩
  obtain ⟨y, hy⟩ : ∃ y, farU l n = y := ⟨_, rfl⟩
  obtain ⟨z, hz⟩ : ∃ z, farU n m = z := ⟨_, rfl⟩
  have HX := Lib.hid hx
  have HYY := Lib.hid hy
  have HZ := Lib.hid hz
  have hyl : y ≤ 200 := by rw [← hy]; exact Nat.le_trans (farC_le _ _ _) (by rw [HA.out, HC.out]; omega)
  have hzl : z ≤ 200 := by rw [← hz]; exact Nat.le_trans (farC_le _ _ _) (by rw [HB.out, HC.out]; omega)
  have htri : x ≤ y + z := by rw [← hx, ← hy, ← hz]; exact farU_tri l m n
  obtain ⟨S, hS⟩ : ∃ S, y + z = S := ⟨_, rfl⟩
  have x1 : (y : Int) + (z : Int) = (S : Int) := by omega
  have x2 : IntKind.i64.wrap (S : Int) = (S : Int) := IntWalk.i64_in _ (by omega)
  have x3 : (x : Int) ≤ (S : Int) := by omega
  have x0 : x = 0 ↔ l = m := by rw [← hx]; exact farU_zero l m
  have HX0 := Lib.hid x0
  clear hx hy hz htri hS x0 h1 h2 h3
  go_wp2_with fail
  refine (far_any _ _ l m _ HU.out HV.out (by rw [HA.out]; omega) (by rw [HB.out]; omega)).mono ?_
  rintro e w1 ⟨rfl, hb1⟩
  rw [HX.out]
  have HB1 := Lib.hid hb1
  clear hb1
  go_wp2_with fail
  refine (rfar_any _ _ l m _ (HU.out.below HB1.out) (HV.out.below HB1.out) (by rw [HA.out]; omega) (by rw [HB.out]; omega)).mono ?_
  rintro e w2 ⟨rfl, hb2⟩
  rw [HX.out]
  have HB2 : Hid (Below w.heap.size w w2) := Lib.hid (HB1.out.trans (hb2.mono HB1.out.size))
  clear hb2
  go_wp2_with fail
  refine (far_any _ _ m l _ (HV.out.below HB2.out) (HU.out.below HB2.out) (by rw [HB.out]; omega) (by rw [HA.out]; omega)).mono ?_
  rintro e w3 ⟨rfl, hb3⟩
  rw [farU_symm, HX.out]
  have HB3 : Hid (Below w.heap.size w w3) := Lib.hid (HB2.out.trans (hb3.mono HB2.out.size))
  clear hb3
  have heq : ((x : Int) == 0) = decide (l = m) := by
    by_cases e : l = m
    · rw [decide_eq_true e, HX0.out.2 e]; rfl
    · rw [decide_eq_false e]
      have : ¬ x = 0 := fun h => e (HX0.out.1 h)
      simp
      omega
  obtain ⟨b, hb⟩ : ∃ b, b = decide (l = m) := ⟨_, rfl⟩
  rw [← hb] at heq
  have HBB := Lib.hid hb
  clear hb
  cases b
  all_goals
    go_wp2_with fail
    refine (same_g _ _ l m _ (HU.out.below HB3.out) (HV.out.below HB3.out)).mono ?_
    rintro e w4 ⟨rfl, rfl⟩
    rw [← HBB.out]
    go_wp2_with fail
    refine (far_any _ _ l n _ (HU.out.below HB3.out) (HT.out.below HB3.out) (by rw [HA.out]; omega) (by rw [HC.out]; omega)).mono ?_
    rintro e w5 ⟨rfl, hb5⟩
    rw [HYY.out]
    have HB5 : Hid (Below w.heap.size w w5) := Lib.hid (HB3.out.trans (hb5.mono HB3.out.size))
    clear hb5
    go_wp2_with fail
    refine (far_any _ _ n m _ (HT.out.below HB5.out) (HV.out.below HB5.out) (by rw [HC.out]; omega) (by rw [HB.out]; omega)).mono ?_
    rintro e w6 ⟨rfl, hb6⟩
    rw [HZ.out]
    have HB6 : Hid (Below w.heap.size w w6) := Lib.hid (HB5.out.trans (hb6.mono HB5.out.size))
    clear hb6
    go_wp2_with fail
    refine (works_any _).mono ?_
    rintro e w7 ⟨rfl, hb7⟩
    have HB7 : Hid (Below w.heap.size w w7) := Lib.hid (HB6.out.trans (hb7.mono HB6.out.size))
    clear hb7
    go_wp2
    go_ret
    exact ⟨rfl, HB7.out⟩
end Go.Proofs.YteeeocianofkfaaGreat
