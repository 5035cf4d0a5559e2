/-
  slices.SortFunc at calls, with the program's closure.
-/
import Derived.Test.YtggecoekoilahaaIdShelf
import Derived.Test.YtggecoekoilahaaIdRows
namespace Go.Proofs.Ytggecoekoilahaa
open Go.RowKit Go.Shelf Go.Lib Go.Sort
set_option linter.unusedSimpArgs false
set_option linter.unusedVariables false

def cmpI (a b : Int) : Int := if a < b then -1 else if b < a then 1 else 0
def cfRC (x y : RC) : Int := if cmpI x.cl y.cl ≠ 0 then cmpI x.cl y.cl else cmpI x.fr y.fr

set_option maxHeartbeats 400000 in
theorem isnan_any (x : Int) (w : World) : Calls Try.prog 40 #[.int .i64 x] w fun e w' => e = .returned (.bool false) ∧ w = w' := by
  go_enter Try.func40, Try.ntmps40
  go_wp2
  go_ret
  exact ⟨by simp, rfl⟩
set_option maxHeartbeats 400000 in
theorem compare_any (a b : Int) (w : World) : Calls Try.prog 29 #[.int .i64 a, .int .i64 b] w fun e w' => e = .returned (.int .i64 (cmpI a b)) ∧ w = w' := by
  unfold cmpI
  by_cases h1 : a < b
  · rw [if_pos h1]
    have f1 : decide (a < b) = true := decide_eq_true h1
    clear h1
    go_enter Try.func29, Try.ntmps29
    go_wp2_with (go_at_call 40; refine (isnan_any _ _).mono ?_; rintro e w' ⟨rfl, rfl⟩)
    go_ret
    exact ⟨rfl, rfl⟩
  · rw [if_neg h1]
    have f1 : decide (a < b) = false := decide_eq_false h1
    by_cases h2 : b < a
    · rw [if_pos h2]
      have f2 : decide (b < a) = true := decide_eq_true h2
      clear h1 h2
      go_enter Try.func29, Try.ntmps29
      go_wp2_with (go_at_call 40; refine (isnan_any _ _).mono ?_; rintro e w' ⟨rfl, rfl⟩)
      go_ret
      exact ⟨rfl, rfl⟩
    · rw [if_neg h2]
      have f2 : decide (b < a) = false := decide_eq_false h2
      clear h1 h2
      go_enter Try.func29, Try.ntmps29
      go_wp2_with (go_at_call 40; refine (isnan_any _ _).mono ?_; rintro e w' ⟨rfl, rfl⟩)
      go_ret
      exact ⟨rfl, rfl⟩

set_option maxHeartbeats 400000 in
theorem or_any (a b : Int) (g : Nat) (w : World) (h0 : w.cell? ⟨g, 0, none⟩ = some (.int .i64 a)) (h1 : w.cell? ⟨g, 1, none⟩ = some (.int .i64 b)) :
    Calls Try.prog 28 #[.slice (some ⟨g, 0, none⟩) 2 2] w fun e w' => e = .returned (.int .i64 (if a ≠ 0 then a else b)) ∧ w = w' := by
  have HA := Lib.hid h0
  have HB := Lib.hid h1
  clear h0 h1
  obtain ⟨R, hR⟩ : ∃ R, R = (if a ≠ 0 then a else b) := ⟨_, rfl⟩
  rw [← hR]
  have HRR := Lib.hid hR
  clear hR
  go_enter Try.func28, Try.ntmps28
  go_wp2
  go_loopw [8] (fun i wr => ∃ I : Nat, I ≤ 2 ∧ i = .int .i64 I ∧ w = wr ∧ Hid (0 < I → a = 0) ∧ Hid (1 < I → b = 0)) (fun i _ => 2 - (intOf i).toNat)
  case atStart => exact ⟨0, by omega, rfl, rfl, Lib.hid (fun h => by omega), Lib.hid (fun h => by omega)⟩
  case round =>
    obtain ⟨I, hI, rfl, rfl, hP, hQ⟩ := hrel
    by_cases h2 : I = 2
    · subst h2
      have ha := hP.out (by omega)
      have hb := hQ.out (by omega)
      have HR : Hid (R = 0) := Lib.hid (by rw [HRR.out]; rw [if_neg (by omega)]; exact hb)
      clear ha hb
      go_wp2
      go_ret
      exact ⟨by rw [HR.out] <;> rfl, rfl⟩
    · by_cases h0 : I = 0
      · subst h0
        have c0 := HA.out
        by_cases ha : a = 0
        · have f : (a != 0) = false := by simp [ha]
          have HZ := Lib.hid ha
          clear ha
          go_wp2
          go_roundw
          case rel => exact ⟨1, by omega, by go_num, by trivial, Lib.hid (by first | exact fun _ => HZ.out | exact HZ.out), Lib.hid (by first | trivial | (intro h; omega))⟩
          case measure => simp [intOf]
        · have f : (a != 0) = true := by simp [ha]
          have HR : Hid (R = a) := Lib.hid (by rw [HRR.out]; rw [if_pos ha])
          clear ha
          go_wp2
          go_ret
          exact ⟨by rw [HR.out] <;> rfl, rfl⟩
      · obtain rfl : I = 1 := by omega
        have c1 := HB.out
        have ha := hP.out (by omega)
        have HZA := Lib.hid ha
        clear ha
        by_cases hb : b = 0
        · have f : (b != 0) = false := by simp [hb]
          have HZ := Lib.hid hb
          clear hb
          go_wp2
          go_roundw
          case rel => exact ⟨2, by omega, by go_num, by trivial, Lib.hid (by first | exact fun _ => HZA.out | exact HZA.out), Lib.hid (by first | exact fun _ => HZ.out | exact HZ.out)⟩
          case measure => simp [intOf]
        · have f : (b != 0) = true := by simp [hb]
          have HR : Hid (R = b) := Lib.hid (by rw [HRR.out]; rw [if_neg (by rw [HZA.out]; decide)])
          clear hb
          go_wp2
          go_ret
          exact ⟨by rw [HR.out] <;> rfl, rfl⟩

set_option maxHeartbeats 1000000 in
theorem right1_any (x y : RC) (W : World) : Calls Try.prog 27 #[x.val, y.val] W fun e w' => e = .returned (.int .i64 (cfRC x y)) ∧ ∃ q os', w' = grow (W.drewN q) os' := by
  obtain ⟨cl, kd, key, va, vl, vc, fr, to, co, ga, gl, gc⟩ := x
  obtain ⟨cl', kd', key', va', vl', vc', fr', to', co', ga', gl', gc'⟩ := y
  simp only [RC.val, cfRC]
  have HC1 := Lib.hid (fun w' => compare_any cl cl' w')
  have HC2 := Lib.hid (fun w' => compare_any fr fr' w')
  obtain ⟨p, hp⟩ : ∃ p, p = cmpI cl cl' := ⟨_, rfl⟩
  obtain ⟨q, hq⟩ : ∃ q, q = cmpI fr fr' := ⟨_, rfl⟩
  rw [← hp] at HC1 ⊢
  rw [← hq] at HC2 ⊢
  clear hp hq
  have HOR := Lib.hid (fun (W2 : World) (g : Nat) (hg : W2.heap.size = g) => or_any p q g (W2.alloc (.cells #[.int .i64 p, .int .i64 q] 3)).drew
    (by subst hg; exact cell_of_row (W2.alloc (.cells #[.int .i64 p, .int .i64 q] 3)) _ 0 _ _ (0, 0) (heap_newA _ _)) (by subst hg; exact cell_of_row (W2.alloc (.cells #[.int .i64 p, .int .i64 q] 3)) _ 1 _ _ (0, 0) (heap_newA _ _)))
  obtain ⟨R, hR⟩ : ∃ R, R = (if p ≠ 0 then p else q) := ⟨_, rfl⟩
  rw [← hR] at HOR ⊢
  clear hR
  go_enter Try.func27, Try.ntmps27
  go_upto_region 1 with fail
  obtain ⟨kp, hkp⟩ : ∃ kp : Nat → Bool, ∀ k, kp k = true ↔ k < W.heap.size + 2 := ⟨fun k => decide (k < W.heap.size + 2), fun k => decide_eq_true_iff⟩
  have k0 : kp W.heap.size = true := (hkp _).2 (by omega)
  have k1 : kp (W.heap.size + 1) = true := (hkp _).2 (by omega)
  have HKP := Lib.hid hkp
  clear hkp
  have hgr := fun (w0 W : World) (p : Addr) (hp : (fun k => kp k = true) p.block) => graft_cell (w0 := w0) (keep := (fun k => kp k = true)) W hp
  refine wp_region_tree (fun k => kp k = true) [4, 9, 10, 11] (.step 0 (.step 1 (.step 2 (.step 3 (.step 5 (.step 6 (.step 7 (.step 8 (.step 4 (.step 9 (.step 10 (.step 11 (.step 12 .done))))))))))))) (by kernel_rfl) (by kernel_rfl) ?_
  simp only [slimTr, slimStep, Oper.slim, List.contains_cons, List.contains_nil, Option.map_none, Option.map_some, List.getElem?_toArray, List.getElem?_cons_zero, List.getElem?_cons_succ, Option.bind_some, beq_self_eq_true, Bool.or_false, Nat.reduceBEq, Nat.reduceAdd, Nat.zero_add]
  repeat ((with_reducible refine wpSlimT_step (fun K hK => ?_)); go_simp; first | (refine hK _ _ ?_; clear hK K) | (refine ⟨by (intro kk hkk; first | (simp (disch := (simp; omega)) only [hp_drew, hp_drewN, hp_alloc, hp_set]; done) | (simp [hp_drew, hp_drewN, hp_alloc_if, hkk]; done) | (have hkk2 := (HKP.out kk).1 hkk; simp (disch := (simp; omega)) only [hp_drew, hp_drewN, hp_alloc, hp_set]; done)), hK _ _ ?_⟩; clear hK K)| (go_at_call 29; first | ((with_reducible refine (HC1.out _).mono ?_); rintro e wc ⟨rfl, rfl⟩; refine ⟨_, rfl, (fun kk hkk => rfl), hK _ _ ?_⟩; clear hK K) | ((with_reducible refine (HC2.out _).mono ?_); rintro e wc ⟨rfl, rfl⟩; refine ⟨_, rfl, (fun kk hkk => rfl), hK _ _ ?_⟩; clear hK K)) | (go_at_call 28; refine (HOR.out _ _ (by simp)).mono ?_; rintro e wc ⟨rfl, rfl⟩; refine ⟨_, rfl, by (intro kk hkk; have hkk2 := (HKP.out kk).1 hkk; simp (disch := (simp; omega)) only [hp_drew, hp_drewN, hp_alloc, hp_set]), hK _ _ ?_⟩; clear hK K))
  refine wpSlimT_done ?_
  clear hgr
  go_wp2
  go_ret
  refine ⟨rfl, ?_⟩
  exact ⟨1, _, by rw [alloc_eq_grow, alloc_eq_grow, alloc_eq_grow, grow_grow, grow_grow, drew_grow]; rfl⟩
end Go.Proofs.Ytggecoekoilahaa
