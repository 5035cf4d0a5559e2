/-
  Whether two rows are the same; the chapter's example.
-/
import Derived.Test.YtjlehnmcfimnfaaLiPick
namespace Go.Proofs.Ytjlehnmcfimnfaa
open Go.RowKit
set_option linter.unusedSimpArgs false
set_option linter.unusedVariables false

theorem lit_rd (W : World) (xs : List Int) (n : Nat) (hn : n = xs.length) : IRd (W.alloc (.cells (xs.map (Value.int .i64)).toArray 3)) (.slice (some ⟨W.heap.size, 0, none⟩) n n) xs := by
  subst hn
  refine IRd.mk (Nat.le_refl _) (by simp) fun i x hx => ?_
  rw [cell_of_row _ _ _ _ _ (0, 0) (heap_newA _ _)]
  simp [hx]
set_option maxHeartbeats 1000000 in
theorem same_any (u v : Value) (l k : List Int) (w : World) (hu : IRd w u l) (hv : IRd w v k) (hl : l.length ≤ 1000000000) :
    Calls Try.prog 11 #[u, v] w fun e w' => e = .returned (.bool (decide (l = k))) ∧ Below w.heap.size w w' := by
  obtain ⟨a, cap, rfl⟩ := hu.form
  obtain ⟨b, cap2, rfl⟩ := hv.form
  have HU := Lib.hid hu
  have HV := Lib.hid hv
  clear hu hv
  by_cases hlen : l.length = k.length
  · have hle : ((l.length : Int) != (k.length : Int)) = false := by rw [hlen]; simp
    have HLEN := Lib.hid hlen
    clear hlen
    go_enter Try.func11, Try.ntmps11
    go_wp2
    go_loopg [5] l.length (fun gk i wr => ∃ I : Nat, I ≤ l.length ∧ gk = l.length - I ∧ i = .int .i64 I ∧ Hid (l.take I = k.take I) ∧ Below w.heap.size w wr)
    case atStart => exact ⟨0, by omega, rfl, rfl, Lib.hid rfl, Below.refl _ _⟩
    case round =>
      obtain ⟨I, hI, rfl, rfl, hT, hB⟩ := hrel
      have HLEN2 := HLEN.out
      by_cases hlt : I < l.length
      · obtain ⟨x, hx⟩ : ∃ x, l[I]? = some x := ⟨_, List.getElem?_eq_getElem hlt⟩
        obtain ⟨y, hy⟩ : ∃ y, k[I]? = some y := ⟨_, List.getElem?_eq_getElem (by omega)⟩
        obtain ⟨-, hcap, b1, o1, hab, hb1, c0⟩ := IRd.cell (HU.out.below hB) hx
        obtain ⟨-, hcap2, b2, o2, hab2, hb2, c1⟩ := IRd.cell (HV.out.below hB) hy
        subst hab hab2
        have HX := Lib.hid hx
        have HY := Lib.hid hy
        clear hx hy
        have hlt2 : I < k.length := by omega
        by_cases hxy : x = y
        · subst hxy
          have HT2 : Hid (l.take (I + 1) = k.take (I + 1)) := Lib.hid (by rw [List.take_add_one, List.take_add_one, HX.out, HY.out, hT.out])
          go_upto_region 6 with fail
          go_quiet (fail)
          go_wp2
          go_roundg (l.length - (I + 1))
          case measure => omega
          case rel => exact ⟨I + 1, by omega, rfl, by go_num, HT2, bel_drewN hB _⟩
        · have hne : (x != y) = true := by simpa using hxy
          go_upto_region 6 with fail
          go_quiet (fail)
          go_wp2
          go_ret
          refine ⟨?_, bel_drewN hB _⟩
          rw [decide_eq_false (fun e => hxy (by have h1 := HX.out; have h2 := HY.out; rw [e, h2] at h1; exact (Option.some.inj h1).symm))] <;> rfl
      · obtain rfl : I = l.length := by omega
        go_wp2
        go_ret
        refine ⟨?_, hB⟩
        have h1 := hT.out
        rw [List.take_length, List.take_of_length_le (by omega)] at h1
        rw [decide_eq_true h1] <;> rfl
  · have hle : ((l.length : Int) != (k.length : Int)) = true := by rw [bne_iff_ne]; omega
    have HNE : Hid (decide (l = k) = false) := Lib.hid (decide_eq_false (fun e => hlen (by rw [e])))
    clear hlen
    go_enter Try.func11, Try.ntmps11
    go_wp2
    go_ret
    exact ⟨by rw [HNE.out] <;> rfl, Below.refl _ _⟩

theorem ord_lit {n : Nat} {C : Nat → Nat} {l R : List Int} (S : List Int) (h : OrdOf n C l R) (h1 : S.Pairwise (keyLt (cntN n C))) (h2 : ∀ x ∈ S, x ∈ l ∧ isN n x = true) (h3 : ∀ x ∈ l, isN n x = true → x ∈ S) : R = S :=
  h.unique ⟨h1, fun x => ⟨fun hx => ⟨(h2 x hx).1, (isN_iff n x).1 (h2 x hx).2⟩, fun ⟨hx, hv⟩ => h3 x hx ((isN_iff n x).2 hv)⟩⟩
def exC : Nat → Nat := tlC 4 (tlC 4 (fun _ => 0) [1, 2, 1]) [1]
theorem exC0 : cntN 4 exC 0 = 0 := by decide
theorem exC1 : cntN 4 exC 1 = 3 := by decide
theorem exC2 : cntN 4 exC 2 = 1 := by decide
theorem exC3 : cntN 4 exC 3 = 0 := by decide
theorem alloc_below (w : World) (o : Obj) : Below w.heap.size w (w.alloc o) := (Below.refl _ _).alloc (Nat.le_refl _) _
set_option maxHeartbeats 2000000 in
theorem works_any (w : World) : Calls Try.prog 7 #[] w fun e w' => e = .returned (.bool true) ∧ Below w.heap.size w w' := by
  go_enter Try.func7, Try.ntmps7
  go_wp2_with fail
  refine (pnew_any 4 w).mono ?_
  rintro e w1 ⟨tb, bm, rfl, hP, -, hbm, hb⟩
  change PT w1 tb bm 4 _ at hP
  go_wp2_with fail
  refine (ptell_any tb bm 4 _ _ [1, 2, 1] _ (hP.below (alloc_below _ _)) (lit_rd _ [1, 2, 1] 3 rfl) (by simp)).mono ?_
  clear hP
  rintro e w2 ⟨he, hP, hg⟩
  rw [show tlErr 4 [1, 2, 1] = 0 from by decide] at he
  subst he
  have hb := (hb.alloc hb.size _).grown hg (by simp; have := hb.size; omega) (fun k hk => by cases hk; exact hbm)
  clear hg
  go_wp2_with fail
  refine (ptell_any tb bm 4 _ _ [1] _ (hP.below (alloc_below _ _)) (lit_rd _ [1] 1 rfl) (by simp)).mono ?_
  clear hP
  rintro e w3 ⟨he, hP, hg⟩
  rw [show tlErr 4 [1] = 0 from by decide] at he
  subst he
  have hb := (hb.alloc hb.size _).grown hg (by simp; have := hb.size; omega) (fun k hk => by cases hk; exact hbm)
  change PT w3 tb bm 4 exC at hP
  clear hg
  go_wp2_with fail
  refine (pcount_any tb bm 4 exC 1 _ (hP.below (by first | exact Below.refl _ _ | exact alloc_below _ _))).mono ?_
  rintro e w9 ⟨he, hw⟩
  rw [exC1] at he
  subst he hw
  go_wp2_with fail
  refine (pout_any tb bm 4 exC 1 _ (hP.below (by first | exact Below.refl _ _ | exact alloc_below _ _))).mono ?_
  rintro e w9 ⟨he, hw⟩
  rw [exC1] at he
  subst he hw
  go_wp2_with fail
  refine (pout_any tb bm 4 exC 2 _ (hP.below (by first | exact Below.refl _ _ | exact alloc_below _ _))).mono ?_
  rintro e w9 ⟨he, hw⟩
  rw [exC2] at he
  subst he hw
  go_wp2_with fail
  refine (porder_any tb bm 4 exC _ [3, 1, 0, 2, 1] _ (hP.below (alloc_below _ _)) (lit_rd _ [3, 1, 0, 2, 1] 5 rfl) (by simp)).mono ?_
  rintro e w4 ⟨v4, R, rfl, hord, hrd, hb4⟩
  rw [ord_lit [0, 3, 2, 1] hord (by decide) (by decide) (by decide)] at hrd
  have hP := hP.below ((alloc_below _ _).trans (hb4.mono (by simp)))
  have hb := hb.trans (((alloc_below _ _).trans (hb4.mono (by simp))).mono hb.size)
  clear hb4 hord
  go_wp2_with fail
  refine (same_any _ _ _ [0, 3, 2, 1] _ (hrd.below (alloc_below _ _)) (lit_rd _ [0, 3, 2, 1] 4 rfl) (by simp)).mono ?_
  rintro e w5 ⟨rfl, hb5⟩
  rw [show decide (([0, 3, 2, 1] : List Int) = [0, 3, 2, 1]) = true from by decide]
  have hP := hP.below ((alloc_below _ _).trans (hb5.mono (by simp)))
  have hb := hb.trans (((alloc_below _ _).trans (hb5.mono (by simp))).mono hb.size)
  clear hb5 hrd
  go_wp2_with fail
  refine (ppick_any tb bm 4 exC _ [1, 2, 3] 2 _ (hP.below (alloc_below _ _)) (lit_rd _ [1, 2, 3] 3 rfl) (by simp)).mono ?_
  rintro e w4 ⟨v4, R, rfl, hord, hrd, hb4⟩
  rw [ord_lit [3, 2, 1] hord (by decide) (by decide) (by decide)] at hrd
  change IRd w4 v4 [3, 2] at hrd
  have hP := hP.below ((alloc_below _ _).trans (hb4.mono (by simp)))
  have hb := hb.trans (((alloc_below _ _).trans (hb4.mono (by simp))).mono hb.size)
  clear hb4 hord
  go_wp2_with fail
  refine (same_any _ _ _ [3, 2] _ (hrd.below (alloc_below _ _)) (lit_rd _ [3, 2] 2 rfl) (by simp)).mono ?_
  rintro e w5 ⟨rfl, hb5⟩
  rw [show decide (([3, 2] : List Int) = [3, 2]) = true from by decide]
  have hP := hP.below ((alloc_below _ _).trans (hb5.mono (by simp)))
  have hb := hb.trans (((alloc_below _ _).trans (hb5.mono (by simp))).mono hb.size)
  clear hb5 hrd
  go_wp2_with fail
  refine (ppick_any tb bm 4 exC _ [1, 2] 2 _ (hP.below (alloc_below _ _)) (lit_rd _ [1, 2] 2 rfl) (by simp)).mono ?_
  rintro e w4 ⟨v4, R, rfl, hord, hrd, hb4⟩
  rw [ord_lit [2, 1] hord (by decide) (by decide) (by decide)] at hrd
  change IRd w4 v4 [2, 1] at hrd
  have hP := hP.below ((alloc_below _ _).trans (hb4.mono (by simp)))
  have hb := hb.trans (((alloc_below _ _).trans (hb4.mono (by simp))).mono hb.size)
  clear hb4 hord
  go_wp2_with fail
  refine (same_any _ _ _ [2, 1] _ (hrd.below (alloc_below _ _)) (lit_rd _ [2, 1] 2 rfl) (by simp)).mono ?_
  rintro e w5 ⟨rfl, hb5⟩
  rw [show decide (([2, 1] : List Int) = [2, 1]) = true from by decide]
  have hP := hP.below ((alloc_below _ _).trans (hb5.mono (by simp)))
  have hb := hb.trans (((alloc_below _ _).trans (hb5.mono (by simp))).mono hb.size)
  clear hb5 hrd
  go_wp2_with fail
  refine (ptotal_any tb bm 4 exC _ hP).mono ?_
  rintro e w6 ⟨he, hb6⟩
  rw [show ((sumN 4 exC : Nat) : Int) = 4 from by decide] at he
  subst he
  go_wp2
  go_ret
  exact ⟨rfl, hb.trans (hb6.mono hb.size)⟩
end Go.Proofs.Ytjlehnmcfimnfaa
