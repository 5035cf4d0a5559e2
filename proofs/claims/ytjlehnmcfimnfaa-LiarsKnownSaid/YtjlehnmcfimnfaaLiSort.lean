/-
  slices.SortFunc at nodes, with the program's closure.
-/
import Derived.Test.YtjlehnmcfimnfaaLiShelf
import Derived.Test.YtjlehnmcfimnfaaLiOrder
namespace Go.Proofs.Ytjlehnmcfimnfaa
open Go.RowKit Go.Shelf Go.Lib Go.Sort
set_option linter.unusedSimpArgs false
set_option linter.unusedVariables false

def cmpI (a b : Int) : Int := if a < b then -1 else if b < a then 1 else 0

set_option maxHeartbeats 400000 in
theorem isnan_any (x : Int) (w : World) : Calls Try.prog 44 #[.int .i64 x] w fun e w' => e = .returned (.bool false) ∧ w = w' := by
  go_enter Try.func44, Try.ntmps44
  go_wp2
  go_ret
  exact ⟨by simp, rfl⟩
set_option maxHeartbeats 400000 in
theorem compare_any (a b : Int) (w : World) : Calls Try.prog 38 #[.int .i64 a, .int .i64 b] w fun e w' => e = .returned (.int .i64 (cmpI a b)) ∧ w = w' := by
  unfold cmpI
  by_cases h1 : a < b
  · rw [if_pos h1]
    have f1 : decide (a < b) = true := decide_eq_true h1
    clear h1
    go_enter Try.func38, Try.ntmps38
    go_wp2_with (go_at_call 44; refine (isnan_any _ _).mono ?_; rintro e w' ⟨rfl, rfl⟩)
    go_ret
    exact ⟨rfl, rfl⟩
  · rw [if_neg h1]
    have f1 : decide (a < b) = false := decide_eq_false h1
    by_cases h2 : b < a
    · rw [if_pos h2]
      have f2 : decide (b < a) = true := decide_eq_true h2
      clear h1 h2
      go_enter Try.func38, Try.ntmps38
      go_wp2_with (go_at_call 44; refine (isnan_any _ _).mono ?_; rintro e w' ⟨rfl, rfl⟩)
      go_ret
      exact ⟨rfl, rfl⟩
    · rw [if_neg h2]
      have f2 : decide (b < a) = false := decide_eq_false h2
      clear h1 h2
      go_enter Try.func38, Try.ntmps38
      go_wp2_with (go_at_call 44; refine (isnan_any _ _).mono ?_; rintro e w' ⟨rfl, rfl⟩)
      go_ret
      exact ⟨rfl, rfl⟩

set_option maxHeartbeats 400000 in
theorem or_any (a b : Int) (g : Nat) (w : World) (h0 : w.cell? ⟨g, 0, none⟩ = some (.int .i64 a)) (h1 : w.cell? ⟨g, 1, none⟩ = some (.int .i64 b)) :
    Calls Try.prog 37 #[.slice (some ⟨g, 0, none⟩) 2 2] w fun e w' => e = .returned (.int .i64 (if a ≠ 0 then a else b)) ∧ w = w' := by
  have HA := Lib.hid h0
  have HB := Lib.hid h1
  clear h0 h1
  obtain ⟨R, hR⟩ : ∃ R, R = (if a ≠ 0 then a else b) := ⟨_, rfl⟩
  rw [← hR]
  have HRR := Lib.hid hR
  clear hR
  go_enter Try.func37, Try.ntmps37
  go_wp2
  go_loopw [8] (fun i wr => ∃ I : Nat, I ≤ 2 ∧ i = .int .i64 I ∧ w = wr ∧ Hid (0 < I → a = 0) ∧ Hid (1 < I → b = 0)) (fun i _ => 2 - (intOf i).toNat)
  case atStart => exact ⟨0, by omega, rfl, rfl, Lib.hid (fun h => by omega), Lib.hid (fun h => by omega)⟩
  case round =>
    obtain ⟨I, hI, rfl, rfl, hP, hQ⟩ := hrel
    by_cases h2 : I = 2
    · subst h2
      have ha := hP.out (by omega)
      have hb := hQ.out (by omega)
      have HR : Hid (R = 0) := Lib.hid (by rw [HRR.out]; rw [if_neg (by omega)]; exact hb)
      clear ha hb
      go_wp2
      go_ret
      exact ⟨by rw [HR.out] <;> rfl, rfl⟩
    · by_cases h0 : I = 0
      · subst h0
        have c0 := HA.out
        by_cases ha : a = 0
        · have f : (a != 0) = false := by simp [ha]
          have HZ := Lib.hid ha
          clear ha
          go_wp2
          go_roundw
          case rel => exact ⟨1, by omega, by go_num, by trivial, Lib.hid (by first | exact fun _ => HZ.out | exact HZ.out), Lib.hid (by first | trivial | (intro h; omega))⟩
          case measure => simp [intOf]
        · have f : (a != 0) = true := by simp [ha]
          have HR : Hid (R = a) := Lib.hid (by rw [HRR.out]; rw [if_pos ha])
          clear ha
          go_wp2
          go_ret
          exact ⟨by rw [HR.out] <;> rfl, rfl⟩
      · obtain rfl : I = 1 := by omega
        have c1 := HB.out
        have ha := hP.out (by omega)
        have HZA := Lib.hid ha
        clear ha
        by_cases hb : b = 0
        · have f : (b != 0) = false := by simp [hb]
          have HZ := Lib.hid hb
          clear hb
          go_wp2
          go_roundw
          case rel => exact ⟨2, by omega, by go_num, by trivial, Lib.hid (by first | exact fun _ => HZA.out | exact HZA.out), Lib.hid (by first | exact fun _ => HZ.out | exact HZ.out)⟩
          case measure => simp [intOf]
        · have f : (b != 0) = true := by simp [hb]
          have HR : Hid (R = b) := Lib.hid (by rw [HRR.out]; rw [if_neg (by rw [HZA.out]; decide)])
          clear hb
          go_wp2
          go_ret
          exact ⟨by rw [HR.out] <;> rfl, rfl⟩

theorem cmpI_neg (a b : Int) : (cmpI a b < 0) ↔ a < b := by
  unfold cmpI
  by_cases h1 : a < b
  · simp [h1]
  · by_cases h2 : b < a <;> simp [h1, h2]
theorem cmpI_zero (a b : Int) : (cmpI a b ≠ 0) ↔ a ≠ b := by
  unfold cmpI
  by_cases h1 : a < b
  · simp [h1]; omega
  · by_cases h2 : b < a
    · simp [h1, h2]; omega
    · simp [h1, h2]; omega
def cfN (n : Nat) (C : Nat → Nat) (x y : Int) : Int := if cmpI (cntN n C x : Nat) (cntN n C y : Nat) ≠ 0 then cmpI (cntN n C x : Nat) (cntN n C y : Nat) else cmpI x y
theorem cfN_neg (n : Nat) (C : Nat → Nat) (x y : Int) : (cfN n C x y < 0) ↔ keyLt (cntN n C) x y := by
  unfold cfN keyLt
  by_cases h : cntN n C x = cntN n C y
  · rw [if_neg (fun e => (cmpI_zero _ _).1 e (by rw [h])), cmpI_neg]
    constructor
    · intro h1; exact .inr ⟨h, h1⟩
    · rintro (h1 | ⟨_, h1⟩)
      · omega
      · exact h1
  · rw [if_pos ((cmpI_zero _ _).2 (by omega)), cmpI_neg]
    constructor
    · intro h1; exact .inl (by omega)
    · rintro (h1 | ⟨h1, _⟩)
      · omega
      · exact absurd h1 h
theorem swoN (n : Nat) (C : Nat → Nat) : SWO (ltOf (cfN n C)) where
  irrefl x := by unfold ltOf; rw [decide_eq_false_iff_not, cfN_neg]; exact keyLt_irrefl _ _
  trans x y z h1 h2 := by unfold ltOf at *; rw [decide_eq_true_iff, cfN_neg] at *; exact keyLt_trans h1 h2
  ntrans x y z h1 h2 := by unfold ltOf at *; rw [decide_eq_false_iff_not, cfN_neg] at *; unfold keyLt at *; omega

set_option maxHeartbeats 1000000 in
theorem order2_any (tb bm n bx : Nat) (C : Nat → Nat) (x y : Int) (W : World) (h : PT W tb bm n C) (hx : W.cell? ⟨bx, 0, none⟩ = some (.pointer (some ⟨tb, 0, none⟩))) :
    Calls Try.prog 36 #[.int .i64 x, .int .i64 y, .pointer (some ⟨bx, 0, none⟩)] W fun e w' => e = .returned (.int .i64 (cfN n C x y)) ∧ ∃ q os', w' = grow (W.drewN q) os' := by
  unfold cfN
  have HC1 := Lib.hid (fun W' (hb : Below W.heap.size W W') => pcount_any tb bm n C x W' (h.below hb))
  have HC2 := Lib.hid (fun W' (hb : Below W.heap.size W W') => pcount_any tb bm n C y W' (h.below hb))
  obtain ⟨cx, hcx⟩ : ∃ p : Int, p = (cntN n C x : Nat) := ⟨_, rfl⟩
  obtain ⟨cy, hcy⟩ : ∃ p : Int, p = (cntN n C y : Nat) := ⟨_, rfl⟩
  rw [← hcx] at HC1 ⊢
  rw [← hcy] at HC2 ⊢
  clear hcx hcy h
  have HP1 := Lib.hid (fun w' => compare_any cx cy w')
  have HP2 := Lib.hid (fun w' => compare_any x y w')
  obtain ⟨p, hp⟩ : ∃ p, p = cmpI cx cy := ⟨_, rfl⟩
  obtain ⟨q, hq⟩ : ∃ q, q = cmpI x y := ⟨_, rfl⟩
  rw [← hp] at HP1 ⊢
  rw [← hq] at HP2 ⊢
  clear hp hq
  have HOR := Lib.hid (fun (W2 : World) (g : Nat) (hg : W2.heap.size = g) => or_any p q g (W2.alloc (.cells #[.int .i64 p, .int .i64 q] 3)).drew
    (by subst hg; exact cell_of_row (W2.alloc (.cells #[.int .i64 p, .int .i64 q] 3)) _ 0 _ _ (0, 0) (heap_newA _ _)) (by subst hg; exact cell_of_row (W2.alloc (.cells #[.int .i64 p, .int .i64 q] 3)) _ 1 _ _ (0, 0) (heap_newA _ _)))
  obtain ⟨R, hR⟩ : ∃ R, R = (if p ≠ 0 then p else q) := ⟨_, rfl⟩
  rw [← hR] at HOR ⊢
  clear hR
  go_enter Try.func36, Try.ntmps36
  go_upto_region 1 with fail
  have hxb : bx < W.heap.size := block_lt_of_cell hx
  obtain ⟨kp, hkp⟩ : ∃ kp : Nat → Bool, ∀ k, kp k = true ↔ k < W.heap.size := ⟨fun k => decide (k < W.heap.size), fun k => decide_eq_true_iff⟩
  have k0 : kp bx = true := (hkp _).2 hxb
  have HKP := Lib.hid hkp
  clear hkp
  have hgr := fun (w0 W : World) (p : Addr) (hp : (fun k => kp k = true) p.block) => graft_cell (w0 := w0) (keep := (fun k => kp k = true)) W hp
  refine wp_region_tree (fun k => kp k = true) [2, 5, 6, 9, 10, 11] (.step 0 (.step 1 (.step 3 (.step 4 (.step 7 (.step 8 (.step 2 (.step 5 (.step 6 (.step 9 (.step 10 (.step 11 (.step 12 .done))))))))))))) (by kernel_rfl) (by kernel_rfl) ?_
  simp only [slimTr, slimStep, Oper.slim, List.contains_cons, List.contains_nil, Option.map_none, Option.map_some, List.getElem?_toArray, List.getElem?_cons_zero, List.getElem?_cons_succ, Option.bind_some, beq_self_eq_true, Bool.or_false, Nat.reduceBEq, Nat.reduceAdd, Nat.zero_add]
  repeat ((with_reducible refine wpSlimT_step (fun K hK => ?_)); go_simp; first | (refine hK _ _ ?_; clear hK K) | (refine ⟨by (intro kk hkk; first | (simp (disch := (simp; omega)) only [hp_drew, hp_drewN, hp_alloc, hp_set]; done) | (simp [hp_drew, hp_drewN, hp_alloc_if, hkk]; done) | (have hkk2 := (HKP.out kk).1 hkk; simp (disch := (simp; omega)) only [hp_drew, hp_drewN, hp_alloc, hp_set]; done)), hK _ _ ?_⟩; clear hK K)| (go_at_call 15; first | ((with_reducible refine (HC1.out _ (by (repeat' (first | (with_reducible exact RowKit.Below.refl _ _) | (with_reducible assumption) | (with_reducible refine RowKit.Below.drew ?_) | (with_reducible refine RowKit.Below.alloc ?_ ?_ _) | omega | (simp; done) | (simp; omega))))).mono ?_); rintro e wc ⟨rfl, rfl⟩; refine ⟨_, rfl, (fun kk hkk => rfl), hK _ _ ?_⟩; clear hK K) | ((with_reducible refine (HC2.out _ (by (repeat' (first | (with_reducible exact RowKit.Below.refl _ _) | (with_reducible assumption) | (with_reducible refine RowKit.Below.drew ?_) | (with_reducible refine RowKit.Below.alloc ?_ ?_ _) | omega | (simp; done) | (simp; omega))))).mono ?_); rintro e wc ⟨rfl, rfl⟩; refine ⟨_, rfl, (fun kk hkk => rfl), hK _ _ ?_⟩; clear hK K)) | (go_at_call 38; first | ((with_reducible refine (HP1.out _).mono ?_); rintro e wc ⟨rfl, rfl⟩; refine ⟨_, rfl, (fun kk hkk => rfl), hK _ _ ?_⟩; clear hK K) | ((with_reducible refine (HP2.out _).mono ?_); rintro e wc ⟨rfl, rfl⟩; refine ⟨_, rfl, (fun kk hkk => rfl), hK _ _ ?_⟩; clear hK K)) | (go_at_call 37; refine (HOR.out _ _ (by simp)).mono ?_; rintro e wc ⟨rfl, rfl⟩; refine ⟨_, rfl, by (intro kk hkk; have hkk2 := (HKP.out kk).1 hkk; simp (disch := (simp; omega)) only [hp_drew, hp_drewN, hp_alloc, hp_set]), hK _ _ ?_⟩; clear hK K))
  refine wpSlimT_done ?_
  clear hgr
  go_wp2
  go_ret
  refine ⟨rfl, ?_⟩
  exact ⟨1, _, by rw [alloc_eq_grow, drew_grow]; rfl⟩
end Go.Proofs.Ytjlehnmcfimnfaa
