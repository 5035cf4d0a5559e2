/-
  Total and New of both tallies.
-/
import Derived.Test.YtjlehnmcfimnfaaLiTell2
import Derived.Test.YtjlehnmcfimnfaaMake
namespace Go.Proofs.Ytjlehnmcfimnfaa
open Go.RowKit
set_option linter.unusedSimpArgs false
set_option linter.unusedVariables false

/-- The counts together. -/
def sumN : Nat → (Nat → Nat) → Nat
  | 0, _ => 0
  | n + 1, C => sumN n C + C n
theorem sumN_congr : ∀ (n : Nat) (C D : Nat → Nat), (∀ k, k < n → C k = D k) → sumN n C = sumN n D
  | 0, _, _, _ => rfl
  | n + 1, C, D, h => by rw [sumN, sumN, sumN_congr n C D (fun k hk => h k (by omega)), h n (by omega)]
theorem sumN_zero : ∀ (n : Nat), sumN n (fun _ => 0) = 0
  | 0 => rfl
  | n + 1 => by rw [sumN, sumN_zero n]
theorem sumN_le : ∀ (n : Nat) (C : Nat → Nat) (m : Nat), (∀ k, C k ≤ m) → sumN n C ≤ n * m
  | 0, _, _, _ => by simp [sumN]
  | n + 1, C, m, h => by
    rw [sumN, Nat.add_mul, Nat.one_mul]
    exact Nat.add_le_add (sumN_le n C m h) (h n)
theorem sumN_add : ∀ (n : Nat) (C : Nat → Nat) (k v : Nat), k < n → C k = 0 → sumN n (fun j => if j = k then v else C j) = sumN n C + v
  | 0, _, _, _, h, _ => by omega
  | n + 1, C, k, v, h, h0 => by
    rw [sumN, sumN]
    by_cases e : k = n
    · subst e
      rw [if_pos rfl, sumN_congr k _ C (fun j hj => if_neg (by omega)), h0]
      omega
    · rw [if_neg (by omega), sumN_add n C k v (by omega) h0]
      omega

/-- The sum of what has come. -/
def cameN (n : Nat) (C : Nat → Nat) (left : Lit → Bool) : Nat := sumN n (fun k => if left (.int .i64 (k : Nat)) = true then 0 else C k)
theorem sameKey_int (a b : Int) : (Lit.int .i64 a).sameKey (.int .i64 b) = decide (a = b) := by
  by_cases h : a = b
  · subst h
    rw [WideAt.sameKey_self (show WideAt.IsKeyLit (.int .i64 a) from trivial)]
    simp
  · rw [Maps.sameKey_ne (by simpa using h)]
    simp [h]
theorem cameN_strike (n : Nat) (C : Nat → Nat) (left : Lit → Bool) (k : Nat) (hk : k < n) (hl : left (.int .i64 (k : Nat)) = true) :
    cameN n C (fun z => left z && !z.sameKey (.int .i64 (k : Nat))) = cameN n C left + C k := by
  unfold cameN
  rw [← sumN_add n _ k (C k) hk (by simp [hl])]
  refine sumN_congr _ _ _ fun j hj => ?_
  simp only [sameKey_int]
  by_cases e : j = k
  · subst e; simp
  · have : ¬ ((j : Int) = (k : Int)) := by omega
    simp [e, this]
theorem cameN_none (n : Nat) (C : Nat → Nat) (left : Lit → Bool) (h : ∀ kl, left kl = false) : cameN n C left = sumN n C :=
  sumN_congr _ _ _ fun k _ => by rw [h]; simp

set_option maxRecDepth 100000 in
set_option maxHeartbeats 1000000 in
theorem ptotal_any (tb bm n : Nat) (C : Nat → Nat) (w : World) (h : PT w tb bm n C) :
    Calls Try.prog 12 #[.pointer (some ⟨tb, 0, none⟩)] w fun e w' => e = .returned (.int .i64 (sumN n C : Nat)) ∧ Below w.heap.size w w' := by
  obtain ⟨-, c1⟩ := h.cells
  have hn2 := h.n2
  have hC2 := h.C2
  obtain ⟨D, hown, hat, hkeys⟩ := h.mp
  have HAT := Lib.hid hat
  have HKEYS := Lib.hid hkeys
  have HC2 := Lib.hid hC2
  have hlt := hown.lt
  clear h hat hkeys hC2
  go_enter Try.func12, Try.ntmps12
  go_wp2_with (first | (at_range; refine wpList_range_own _ rfl _ 46 rfl 3 3 int_keyed' Try.underlying46 _ bm n D rfl hown ?_; intro w0 hrg0 hg0 hs0) | go_in)
  go_frame
  go_loopw [3] (fun s wr => ∃ (left : Lit → Bool) (cnt : Nat), wr.ranges Try.prog 3 (plainElem Try.prog 3) bm w.heap.size n D left cnt ∧ s = .int .i64 (cameN n C left : Nat) ∧ Hid (∀ kl, left kl = true → Maps.has D kl = true) ∧ Hid (Below w.heap.size w wr))
    (fun _ wr => wr.rangeLeft bm w.heap.size)
  case atStart =>
    refine ⟨_, _, hrg0, ?_, Lib.hid (fun kl hk => hk), Lib.hid ((Below.refl _ _).grown hg0 (Nat.le_refl _) (fun k hk => by cases hk))⟩
    have : cameN n C (Maps.has D) = 0 := by
      unfold cameN
      rw [sumN_congr n _ (fun _ => 0) (fun k hk => ?_), sumN_zero]
      cases hh : Maps.has D (.int .i64 (k : Nat)) with
      | true => simp
      | false =>
        have h1 := HAT.out k hk
        rw [Maps.atKey_of_not_has hh] at h1
        simp only [DataW.lit.injEq, Lit.int.injEq, true_and] at h1
        simp only [Bool.false_eq_true, if_false]
        omega
    rw [this]
    rfl
  case round =>
    obtain ⟨left, cnt, hrg, rfl, hLK, hB⟩ := hrel
    have hle : cameN n C left ≤ n * 1000000 := sumN_le _ _ _ (fun k => by have := HC2.out k; split <;> omega)
    go_wp2_with (first | (at_next; refine wpList_next_ranges_ii _ rfl _ rfl 3 3 .i64 .i64 int_keyed' Try.underlying3 Try.underlying3 bm w.heap.size n _ _ _ rfl hrg ?_ ?_) | go_in)
    · intro _ hl0
      have HE : Hid (cameN n C left = sumN n C) := Lib.hid (cameN_none n C left hl0)
      go_wp2
      go_ret
      exact ⟨by rw [← HE.out] <;> rfl, hB.out⟩
    · intro x c w1 cnt1 hwx hwc hlx hat1 hrg1 hltc hg1 hs1 hen
      obtain ⟨k, hk, hkx⟩ := HKEYS.out _ (hLK.out _ hlx)
      simp only [Lit.int.injEq, true_and] at hkx
      subst hkx
      have hck : c = (C k : Nat) := by
        have h1 := hat1 (.lit (.int .i64 0))
        rw [HAT.out k hk] at h1
        simp only [DataW.lit.injEq, Lit.int.injEq, true_and] at h1
        exact h1.symm
      subst hck
      have hC := HC2.out k
      have HST := Lib.hid (cameN_strike n C left k hk hlx)
      have HB1 := Lib.hid (hB.out.grown hg1 hB.out.size (fun j e => by cases e; exact Nat.le_refl _))
      have HLK : Hid (∀ kl, (left kl && !kl.sameKey (.int .i64 (k : Nat))) = true → Maps.has D kl = true) := Lib.hid (fun kl hkl => hLK.out kl (by rw [Bool.and_eq_true] at hkl; exact hkl.1))
      have HRG1 := Lib.hid hrg1
      have HRG := Lib.hid hrg
      have HLT := Lib.hid hltc
      have hsum : n * 1000000 ≤ 255000000 := by omega
      clear hat1 hrg1 hrg hlx hltc
      go_wp2
      go_roundw
      case rel => exact ⟨_, cnt1, HRG1.out, by rw [HST.out]; go_num, HLK, HB1⟩
      case measure => rw [HRG1.out.left_eq, HRG.out.left_eq]; exact HLT.out
set_option maxHeartbeats 400000 in
theorem ptotal_nil (w : World) :
    Calls Try.prog 12 #[.pointer none] w fun e w' => e = .returned (.int .i64 0) ∧ w = w' := by
  go_enter Try.func12, Try.ntmps12
  go_wp2
  go_ret
  exact ⟨rfl, rfl⟩
set_option maxHeartbeats 1000000 in
theorem rtotal_any (tb g n : Nat) (C : Nat → Nat) (w : World) (h : RT w tb g n C) :
    Calls Try.prog 24 #[.pointer (some ⟨tb, 0, none⟩)] w fun e w' => e = .returned (.int .i64 (sumN n C : Nat)) ∧ w = w' := by
  obtain ⟨c0, hc⟩ := h.cells
  have hn2 := h.n2
  have HC2 := Lib.hid h.C2
  have HC := Lib.hid hc
  clear h hc
  go_enter Try.func24, Try.ntmps24
  go_wp2
  go_loop [3, 4] (fun s i => ∃ I : Nat, I ≤ n ∧ i = .int .i64 I ∧ s = .int .i64 (sumN I C : Nat)) (fun _ i => n - (intOf i).toNat)
  case atStart => exact ⟨0, by omega, rfl, rfl⟩
  case round =>
    obtain ⟨I, hI, rfl, rfl⟩ := hrel
    have hle : sumN I C ≤ I * 1000000 := sumN_le _ _ _ HC2.out
    by_cases hlt : I < n
    · obtain ⟨c1, -⟩ := HC.out I hlt
      have hC := HC2.out I
      have HS : Hid (sumN (I + 1) C = sumN I C + C I) := Lib.hid rfl
      go_wp2
      go_round
      case rel => exact ⟨I + 1, by omega, by go_num, by rw [HS.out]; go_num⟩
      case measure => simp [intOf]; omega
    · obtain rfl : I = n := by omega
      go_wp2
      go_ret
      exact ⟨rfl, rfl⟩

/-- How many nodes a tally has. -/
def nodesN (x : Int) : Nat := (max 1 (min 255 x)).toNat
theorem nodesN_b (x : Int) : 1 ≤ nodesN x ∧ nodesN x ≤ 255 ∧ ((nodesN x : Nat) : Int) = max 1 (min 255 x) := by unfold nodesN; omega
def PNew (x : Int) (w : World) (e : Ending) (w' : World) : Prop := ∃ tb bm, e = .returned (.pointer (some ⟨tb, 0, none⟩)) ∧ PT w' tb bm (nodesN x) (fun _ => 0) ∧ w.heap.size ≤ tb ∧ w.heap.size ≤ bm ∧ Below w.heap.size w w'
theorem pnew_mk (w : World) (n : Nat) (h1 : 1 ≤ n) (h2 : n ≤ 255) (z : Int) (hz : (n : Int) = z) : PT ((w.alloc (.map #[] 0)).alloc (.cells #[.int .i64 z, .map (some w.heap.size)] 48)) (w.heap.size + 1) w.heap.size n (fun _ => 0) := by
  subst hz
  refine ⟨h1, h2, fun k => by simp, ?_, ?_⟩
  · have := heap_newA (w.alloc (.map #[] 0)) (.cells #[.int .i64 n, .map (some w.heap.size)] 48)
    rw [show (w.alloc (.map #[] 0)).heap.size = w.heap.size + 1 by simp] at this
    exact this
  · exact (CntI.made w n).below ((Below.refl _ _).alloc (Nat.le_refl _) _)
set_option maxHeartbeats 1000000 in
theorem pnew_any (x : Int) (w : World) : Calls Try.prog 8 #[.int .i64 x] w (PNew x w) := by
  have hmm := @run_makeMap Try.prog
  have HB := Lib.hid (nodesN_b x)
  by_cases h1 : x < 255
  · by_cases h2 : 1 < x
    · go_enter Try.func8, Try.ntmps8
      go_wp2
      go_ret
      exact ⟨w.heap.size + 1, w.heap.size, rfl, pnew_mk w _ HB.out.1 HB.out.2.1 _ (by have := HB.out.2.2; omega), by omega, by omega, ((Below.refl _ _).alloc (Nat.le_refl _) _).alloc (by simp) _⟩
    · go_enter Try.func8, Try.ntmps8
      go_wp2
      go_ret
      exact ⟨w.heap.size + 1, w.heap.size, rfl, pnew_mk w _ HB.out.1 HB.out.2.1 _ (by have := HB.out.2.2; omega), by omega, by omega, ((Below.refl _ _).alloc (Nat.le_refl _) _).alloc (by simp) _⟩
  · go_enter Try.func8, Try.ntmps8
    go_wp2
    go_ret
    exact ⟨w.heap.size + 1, w.heap.size, rfl, pnew_mk w _ HB.out.1 HB.out.2.1 _ (by have := HB.out.2.2; omega), by omega, by omega, ((Below.refl _ _).alloc (Nat.le_refl _) _).alloc (by simp) _⟩
def RNew (x : Int) (w : World) (e : Ending) (w' : World) : Prop := ∃ tb g, e = .returned (.pointer (some ⟨tb, 0, none⟩)) ∧ RT w' tb g (nodesN x) (fun _ => 0) ∧ w.heap.size ≤ tb ∧ w.heap.size ≤ g ∧ Below w.heap.size w w'
theorem int_info : (Try.prog.info? 3).map (fun i => (i.zero, i.size, i.bytes)) = some (some (.int .i64 0), 1, 8) := by kernel_rfl
theorem run_ints (w : World) (n : Nat) (hn : n ≤ 1000000) (z : Int) (hz : (n : Int) = z) :
    (Instr.makeSlice 25 (.int .i64 z) (.int .i64 z)).run Try.prog w = .ok (.slice (some ⟨w.heap.size, 0, none⟩) n n) (w.alloc (.cells (Array.replicate n (.int .i64 0)) 3)) := by
  subst hz
  obtain ⟨i0, hi, hz0, hz1, hz2⟩ := info_parts int_info
  exact run_row w _ _ i0 _ Try.underlying25 hi hz0 hz1 rfl n (by rw [hz2]; omega) (by unfold maxLen; omega)
theorem rnew_mk (w : World) (n : Nat) (h1 : 1 ≤ n) (h2 : n ≤ 255) : RT ((w.alloc (.cells (Array.replicate n (.int .i64 0)) 3)).alloc (.cells #[.slice (some ⟨w.heap.size, 0, none⟩) n n] 54)) (w.heap.size + 1) w.heap.size n (fun _ => 0) := by
  refine ⟨h1, h2, fun k => by simp, ?_, ?_⟩
  · have := heap_newA (w.alloc (.cells (Array.replicate n (.int .i64 0)) 3)) (.cells #[.slice (some ⟨w.heap.size, 0, none⟩) n n] 54)
    rw [show (w.alloc (.cells (Array.replicate n (.int .i64 0)) 3)).heap.size = w.heap.size + 1 by simp] at this
    exact this
  · have := keepA (heap_newA w (.cells (Array.replicate n (.int .i64 0)) 3)) (.cells #[.slice (some ⟨w.heap.size, 0, none⟩) n n] 54)
    rw [this]
    congr 2
    apply Array.ext
    · simp
    · intro i h1 h2
      simp
set_option maxHeartbeats 1000000 in
theorem rnew_any (x : Int) (w : World) : Calls Try.prog 17 #[.int .i64 x] w (RNew x w) := by
  have HB := Lib.hid (nodesN_b x)
  have hb := nodesN_b x
  by_cases h1 : x < 255
  · by_cases h2 : 1 < x
    · have hmk := run_ints w (nodesN x) (by omega) x (by omega)
      clear hb
      go_enter Try.func17, Try.ntmps17
      go_wp2
      go_ret
      exact ⟨w.heap.size + 1, w.heap.size, rfl, rnew_mk w _ HB.out.1 HB.out.2.1, by omega, by omega, ((Below.refl _ _).alloc (Nat.le_refl _) _).alloc (by simp) _⟩
    · have hmk := run_ints w (nodesN x) (by omega) 1 (by omega)
      clear hb
      go_enter Try.func17, Try.ntmps17
      go_wp2
      go_ret
      exact ⟨w.heap.size + 1, w.heap.size, rfl, rnew_mk w _ HB.out.1 HB.out.2.1, by omega, by omega, ((Below.refl _ _).alloc (Nat.le_refl _) _).alloc (by simp) _⟩
  · have hmk := run_ints w (nodesN x) (by omega) 255 (by omega)
    clear hb
    go_enter Try.func17, Try.ntmps17
    go_wp2
    go_ret
    exact ⟨w.heap.size + 1, w.heap.size, rfl, rnew_mk w _ HB.out.1 HB.out.2.1, by omega, by omega, ((Below.refl _ _).alloc (Nat.le_refl _) _).alloc (by simp) _⟩
end Go.Proofs.Ytjlehnmcfimnfaa
