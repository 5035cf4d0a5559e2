/-
  The reference's kind: minimum storage.
-/
import Derived.Test.YtpfhejodjpgliaaCfgKind2
namespace Go.Proofs.Ytpfhejodjpgliaa
open Go.RowKit
set_option linter.unusedSimpArgs false
set_option linter.unusedVariables false

/-- Behind the call of New: the shape's block is as it was, so are the others. -/
theorem after_new {w w2 w' W : World} {o : Obj} (hb2 : Below w.heap.size w w2) (hz2 : w.heap.size + 1 < w2.heap.size)
    (hWk : ∀ kk, kk < w.heap.size + 3 → W.heap[kk]? = (putBlk w2 (w.heap.size + 1) o).heap[kk]?) (hWs : w.heap.size + 3 ≤ W.heap.size) (hWb : Below w.heap.size w W) (hbn : Below W.heap.size W w') :
    ∃ w3, w' = putBlk w3 (w.heap.size + 1) o ∧ w.heap.size + 1 < w3.heap.size ∧ Below w.heap.size w w3 ∧ w.heap.size + 3 ≤ w3.heap.size ∧ (∀ kk, kk < w.heap.size + 3 → kk ≠ w.heap.size + 1 → w3.heap[kk]? = w2.heap[kk]?) := by
  have h1 : w'.heap[w.heap.size + 1]? = some o := (hbn.block _ (by omega)).trans ((hWk _ (by omega)).trans (heap_putBlk o hz2))
  obtain ⟨w3, rfl, hz3, hp⟩ := put_of h1
  refine ⟨w3, rfl, hz3, hp (fun X => Below w.heap.size w X) (hWb.trans (hbn.mono (by omega))), hp (fun X => w.heap.size + 3 ≤ X.heap.size) (Nat.le_trans hWs hbn.size), ?_⟩
  refine hp (fun X => ∀ kk, kk < w.heap.size + 3 → kk ≠ w.heap.size + 1 → X.heap[kk]? = w2.heap[kk]?) ?_
  intro kk hk hne
  exact (hbn.block kk (by omega)).trans ((hWk kk hk).trans (heap_putBlk_ne o hne))

set_option maxRecDepth 100000 in
set_option maxHeartbeats 4000000 in
theorem kind_msr (n k d r t q : Int) (b : Bool) (w : World) (hn : 1 ≤ n ∧ n ≤ 255) (hk : 0 ≤ k ∧ k ≤ 255) (hd : 0 ≤ d ∧ d ≤ 255) (hr : 0 ≤ r ∧ r ≤ 255) (ht : 0 ≤ t ∧ t ≤ 127) (hb : b = true ↔ (r = 0 ∧ okN09 n k d)) :
    Calls Try.prog 17 #[.agg #[.int .u8 2, .int .i64 n, .int .i64 k, .int .i64 d, .int .i64 r, .int .i64 t, .int .i64 q]] w fun e w' => e = .returned (.tuple #[.agg #[.int .i64 (d - k + 1), .int .i64 (k * (d - k + 1)), .int .i64 k, .int .i64 (d + 2 * t), .int .i64 1], .bool b]) ∧ Below w.heap.size w w' := by
  have q1 : -64770 ≤ k * (d - k + 1) ∧ k * (d - k + 1) ≤ 65280 := by
    rcases Int.le_total 0 (d - k + 1) with h | h
    · have := mul_bd (a := k) (b := d - k + 1) (by omega) hk.2 h (show d - k + 1 ≤ 256 by omega)
      omega
    · have := mul_bd (a := k) (b := - (d - k + 1)) (by omega) hk.2 (by omega) (show - (d - k + 1) ≤ 254 by omega)
      rw [Int.mul_neg] at this
      omega
  have e1 : IntKind.i64.wrap (2 * t) = 2 * t := IntWalk.i64_in _ (by omega)
  have e2 : IntKind.i64.wrap (d + 2 * t) = d + 2 * t := IntWalk.i64_in _ (by omega)
  have e3 : IntKind.i64.wrap (k * (d - k + 1)) = k * (d - k + 1) := IntWalk.i64_in _ (by omega)
  by_cases c1 : r = 0
  case neg =>
    have f1 : (r == 0) = false := by simpa using c1
    obtain rfl : b = false := by (cases b with | false => rfl | true => exact absurd (hb.1 rfl).1 c1)
    clear hb
    go_enter Try.func17, Try.ntmps17
    go_wp2
    generalize hw0 : (((w.alloc (.cells #[.int .u8 2, .int .i64 n, .int .i64 k, .int .i64 d, .int .i64 r, .int .i64 t, .int .i64 q] 23)).alloc (.cells #[.int .i64 0, .int .i64 0, .int .i64 0, .int .i64 0, .int .i64 0] 31)).alloc (.cells #[.int .i64 n, .int .i64 k, .int .i64 d] 54)) = w0
    have hs0 : w0.heap.size = w.heap.size + 3 := by rw [← hw0]; simp
    have hB0 : w0.heap[w.heap.size]? = some (.cells #[.int .u8 2, .int .i64 n, .int .i64 k, .int .i64 d, .int .i64 r, .int .i64 t, .int .i64 q] 23) := by rw [← hw0]; exact (heap_three w _ _ _).1
    have hB1 : w0.heap[w.heap.size + 1]? = some (.cells #[.int .i64 0, .int .i64 0, .int .i64 0, .int .i64 0, .int .i64 0] 31) := by rw [← hw0]; exact (heap_three w _ _ _).2.1
    have hB2 : w0.heap[w.heap.size + 2]? = some (.cells #[.int .i64 n, .int .i64 k, .int .i64 d] 54) := by rw [← hw0]; exact (heap_three w _ _ _).2.2
    have hb0 : Below w.heap.size w w0 := by rw [← hw0]; exact ((((Below.refl _ w).alloc (Nat.le_refl _) _).alloc (by simp) _).alloc (by simp; omega) _)
    clear hw0
    have hc1 : w0.cell? ⟨w.heap.size, 1, none⟩ = some (.int .i64 n) := cell_of_row w0 _ 1 _ _ (0, 0) hB0
    have hc2 : w0.cell? ⟨w.heap.size, 2, none⟩ = some (.int .i64 k) := cell_of_row w0 _ 2 _ _ (0, 0) hB0
    have hc3 : w0.cell? ⟨w.heap.size, 3, none⟩ = some (.int .i64 d) := cell_of_row w0 _ 3 _ _ (0, 0) hB0
    have hc4 : w0.cell? ⟨w.heap.size, 4, none⟩ = some (.int .i64 r) := cell_of_row w0 _ 4 _ _ (0, 0) hB0
    have hc5 : w0.cell? ⟨w.heap.size, 5, none⟩ = some (.int .i64 t) := cell_of_row w0 _ 5 _ _ (0, 0) hB0
    have hd0 := cell_of_row w0 _ 0 _ _ (0, 0) hB2
    have hd1 := cell_of_row w0 _ 1 _ _ (0, 0) hB2
    have hd2 := cell_of_row w0 _ 2 _ _ (0, 0) hB2
    simp only [List.getElem?_toArray, List.getElem?_cons_zero, List.getElem?_cons_succ] at hd0 hd1 hd2
    obtain ⟨w2, rfl, hz2, hp⟩ := put_of hB1
    have hb2 := hp (fun W => Below w.heap.size w W) hb0
    rw [size_putBlk] at hs0
    clear hp hB1 hb0 hB0 hB2
    have hgr := fun (w0 W : World) (p : Addr) (hp : (fun k => k = w.heap.size ∨ k = w.heap.size + 2) p.block) => graft_cell (w0 := w0) (keep := (fun k => k = w.heap.size ∨ k = w.heap.size + 2)) W hp
    refine wp_region_here (fun k => k = w.heap.size ∨ k = w.heap.size + 2) [1, 5, 21, 24] (by kernel_rfl) (by kernel_rfl) ?_
    simp only [slimAll, Oper.slim, List.contains_cons, List.contains_nil, Option.map_none, Option.map_some, List.getElem?_toArray, List.getElem?_cons_zero, List.getElem?_cons_succ, Option.bind_some, beq_self_eq_true, Bool.or_false, Nat.reduceBEq, Nat.reduceAdd, Nat.zero_add]
    repeat ((with_reducible refine wpSlim_step (fun K hK => ?_)); go_simp; first | (refine hK _ _ ?_; clear hK K) | (refine ⟨by (intro kk hkk; simp (disch := (simp [size_putBlk]; omega)) only [hp_drew, hp_drewN, hp_alloc, hp_set, heap_putBlk_ne]; try (exact hk3 kk (by omega) (by omega))), hK _ _ ?_⟩; clear hK K)| (go_at_call 24; refine (r09Alpha n k d _ (by omega) (by omega) (by omega)).mono ?_; rintro e w' ⟨rfl, rfl⟩; refine ⟨_, rfl, (by intro kk hkk; simp (disch := (simp [size_putBlk]; omega)) only [hp_drew, hp_drewN, hp_alloc, hp_set, heap_putBlk_ne]), hK _ _ ?_⟩; clear hK K))
    refine wpSlim_nil ?_
    clear hgr
    go_wp2
    refine bodyPost_ret (by simp [results, Try.results17, go_sem, hz2, hs0] <;> rfl) rfl ⟨rfl, by (repeat' (first | (with_reducible exact Below.refl _ _) | (with_reducible assumption) | (with_reducible refine bel_drewN ?_ _) | (with_reducible refine Below.drew ?_) | (with_reducible refine Below.alloc ?_ ?_ _) | (with_reducible refine bel_putBlk ?_ ?_ _) | (with_reducible refine Below.setCell ?_ ?_ _) | omega | (simp [size_putBlk]; done) | (simp [size_putBlk]; omega)))⟩
  have f1 : (r == 0) = true := by simpa using c1
  by_cases c2 : okN09 n k d
  · obtain rfl : b = true := hb.2 ⟨c1, c2⟩
    have HN : ∀ w, Calls Try.prog 25 _ w _ := fun w => r09New_ok n k d w hn hk hd c2
    have HN := Lib.hid HN
    clear hb c2 c1
    go_enter Try.func17, Try.ntmps17
    go_wp2
    generalize hw0 : (((w.alloc (.cells #[.int .u8 2, .int .i64 n, .int .i64 k, .int .i64 d, .int .i64 r, .int .i64 t, .int .i64 q] 23)).alloc (.cells #[.int .i64 0, .int .i64 0, .int .i64 0, .int .i64 0, .int .i64 0] 31)).alloc (.cells #[.int .i64 n, .int .i64 k, .int .i64 d] 54)) = w0
    have hs0 : w0.heap.size = w.heap.size + 3 := by rw [← hw0]; simp
    have hB0 : w0.heap[w.heap.size]? = some (.cells #[.int .u8 2, .int .i64 n, .int .i64 k, .int .i64 d, .int .i64 r, .int .i64 t, .int .i64 q] 23) := by rw [← hw0]; exact (heap_three w _ _ _).1
    have hB1 : w0.heap[w.heap.size + 1]? = some (.cells #[.int .i64 0, .int .i64 0, .int .i64 0, .int .i64 0, .int .i64 0] 31) := by rw [← hw0]; exact (heap_three w _ _ _).2.1
    have hB2 : w0.heap[w.heap.size + 2]? = some (.cells #[.int .i64 n, .int .i64 k, .int .i64 d] 54) := by rw [← hw0]; exact (heap_three w _ _ _).2.2
    have hb0 : Below w.heap.size w w0 := by rw [← hw0]; exact ((((Below.refl _ w).alloc (Nat.le_refl _) _).alloc (by simp) _).alloc (by simp; omega) _)
    clear hw0
    have hc1 : w0.cell? ⟨w.heap.size, 1, none⟩ = some (.int .i64 n) := cell_of_row w0 _ 1 _ _ (0, 0) hB0
    have hc2 : w0.cell? ⟨w.heap.size, 2, none⟩ = some (.int .i64 k) := cell_of_row w0 _ 2 _ _ (0, 0) hB0
    have hc3 : w0.cell? ⟨w.heap.size, 3, none⟩ = some (.int .i64 d) := cell_of_row w0 _ 3 _ _ (0, 0) hB0
    have hc4 : w0.cell? ⟨w.heap.size, 4, none⟩ = some (.int .i64 r) := cell_of_row w0 _ 4 _ _ (0, 0) hB0
    have hc5 : w0.cell? ⟨w.heap.size, 5, none⟩ = some (.int .i64 t) := cell_of_row w0 _ 5 _ _ (0, 0) hB0
    have hd0 := cell_of_row w0 _ 0 _ _ (0, 0) hB2
    have hd1 := cell_of_row w0 _ 1 _ _ (0, 0) hB2
    have hd2 := cell_of_row w0 _ 2 _ _ (0, 0) hB2
    simp only [List.getElem?_toArray, List.getElem?_cons_zero, List.getElem?_cons_succ] at hd0 hd1 hd2
    obtain ⟨w2, rfl, hz2, hp⟩ := put_of hB1
    have hb2 := hp (fun W => Below w.heap.size w W) hb0
    rw [size_putBlk] at hs0
    clear hp hB1 hb0 hB0 hB2
    have hgr := fun (w0 W : World) (p : Addr) (hp : (fun k => k = w.heap.size ∨ k = w.heap.size + 2) p.block) => graft_cell (w0 := w0) (keep := (fun k => k = w.heap.size ∨ k = w.heap.size + 2)) W hp
    refine wp_region_here (fun k => k = w.heap.size ∨ k = w.heap.size + 2) [1, 5, 21, 24] (by kernel_rfl) (by kernel_rfl) ?_
    simp only [slimAll, Oper.slim, List.contains_cons, List.contains_nil, Option.map_none, Option.map_some, List.getElem?_toArray, List.getElem?_cons_zero, List.getElem?_cons_succ, Option.bind_some, beq_self_eq_true, Bool.or_false, Nat.reduceBEq, Nat.reduceAdd, Nat.zero_add]
    repeat ((with_reducible refine wpSlim_step (fun K hK => ?_)); go_simp; first | (refine hK _ _ ?_; clear hK K) | (refine ⟨by (intro kk hkk; simp (disch := (simp [size_putBlk]; omega)) only [hp_drew, hp_drewN, hp_alloc, hp_set, heap_putBlk_ne]; try (exact hk3 kk (by omega) (by omega))), hK _ _ ?_⟩; clear hK K)| (go_at_call 24; refine (r09Alpha n k d _ (by omega) (by omega) (by omega)).mono ?_; rintro e w' ⟨rfl, rfl⟩; refine ⟨_, rfl, (by intro kk hkk; simp (disch := (simp [size_putBlk]; omega)) only [hp_drew, hp_drewN, hp_alloc, hp_set, heap_putBlk_ne]), hK _ _ ?_⟩; clear hK K)| (go_at_call 25; refine (HN.out _).mono ?_; rintro e w' ⟨rfl, hbn⟩; obtain ⟨w3, rfl, hz3, hb3, hs3, hk3⟩ := after_new (o := (.cells #[.int .i64 0, .int .i64 0, .int .i64 0, .int .i64 0, .int .i64 0] 31)) hb2 hz2 (fun kk hkk => by simp (disch := (simp [size_putBlk]; omega)) only [hp_drew, hp_drewN, hp_alloc]) (by simp [size_putBlk]; omega) (by (repeat' (first | (with_reducible exact Below.refl _ _) | (with_reducible assumption) | (with_reducible refine bel_drewN ?_ _) | (with_reducible refine Below.drew ?_) | (with_reducible refine Below.alloc ?_ ?_ _) | (with_reducible refine bel_putBlk ?_ ?_ _) | (with_reducible refine Below.setCell ?_ ?_ _) | omega | (simp [size_putBlk]; done) | (simp [size_putBlk]; omega)))) hbn; clear hbn; refine ⟨_, rfl, (by intro kk hkk; simp (disch := (simp [size_putBlk]; omega)) only [hp_drew, heap_putBlk_ne]; exact hk3 kk (by first | omega | (simp at hkk; omega)) (by first | omega | (simp at hkk; omega))), hK _ _ ?_⟩; clear hK K))
    refine wpSlim_nil ?_
    clear hgr
    go_wp2
    refine bodyPost_ret (by simp [results, Try.results17, go_sem, hz3] <;> rfl) rfl ⟨rfl, by (repeat' (first | (with_reducible exact Below.refl _ _) | (with_reducible assumption) | (with_reducible refine bel_drewN ?_ _) | (with_reducible refine Below.drew ?_) | (with_reducible refine Below.alloc ?_ ?_ _) | (with_reducible refine bel_putBlk ?_ ?_ _) | (with_reducible refine Below.setCell ?_ ?_ _) | omega | (simp [size_putBlk]; done) | (simp [size_putBlk]; omega)))⟩
  · obtain rfl : b = false := by (cases b with | false => rfl | true => exact absurd (hb.1 rfl).2 c2)
    have HN : ∀ w, Calls Try.prog 25 _ w _ := fun w => r09New_bad n k d w hn hk hd c2
    have HN := Lib.hid HN
    clear hb c2 c1
    go_enter Try.func17, Try.ntmps17
    go_wp2
    generalize hw0 : (((w.alloc (.cells #[.int .u8 2, .int .i64 n, .int .i64 k, .int .i64 d, .int .i64 r, .int .i64 t, .int .i64 q] 23)).alloc (.cells #[.int .i64 0, .int .i64 0, .int .i64 0, .int .i64 0, .int .i64 0] 31)).alloc (.cells #[.int .i64 n, .int .i64 k, .int .i64 d] 54)) = w0
    have hs0 : w0.heap.size = w.heap.size + 3 := by rw [← hw0]; simp
    have hB0 : w0.heap[w.heap.size]? = some (.cells #[.int .u8 2, .int .i64 n, .int .i64 k, .int .i64 d, .int .i64 r, .int .i64 t, .int .i64 q] 23) := by rw [← hw0]; exact (heap_three w _ _ _).1
    have hB1 : w0.heap[w.heap.size + 1]? = some (.cells #[.int .i64 0, .int .i64 0, .int .i64 0, .int .i64 0, .int .i64 0] 31) := by rw [← hw0]; exact (heap_three w _ _ _).2.1
    have hB2 : w0.heap[w.heap.size + 2]? = some (.cells #[.int .i64 n, .int .i64 k, .int .i64 d] 54) := by rw [← hw0]; exact (heap_three w _ _ _).2.2
    have hb0 : Below w.heap.size w w0 := by rw [← hw0]; exact ((((Below.refl _ w).alloc (Nat.le_refl _) _).alloc (by simp) _).alloc (by simp; omega) _)
    clear hw0
    have hc1 : w0.cell? ⟨w.heap.size, 1, none⟩ = some (.int .i64 n) := cell_of_row w0 _ 1 _ _ (0, 0) hB0
    have hc2 : w0.cell? ⟨w.heap.size, 2, none⟩ = some (.int .i64 k) := cell_of_row w0 _ 2 _ _ (0, 0) hB0
    have hc3 : w0.cell? ⟨w.heap.size, 3, none⟩ = some (.int .i64 d) := cell_of_row w0 _ 3 _ _ (0, 0) hB0
    have hc4 : w0.cell? ⟨w.heap.size, 4, none⟩ = some (.int .i64 r) := cell_of_row w0 _ 4 _ _ (0, 0) hB0
    have hc5 : w0.cell? ⟨w.heap.size, 5, none⟩ = some (.int .i64 t) := cell_of_row w0 _ 5 _ _ (0, 0) hB0
    have hd0 := cell_of_row w0 _ 0 _ _ (0, 0) hB2
    have hd1 := cell_of_row w0 _ 1 _ _ (0, 0) hB2
    have hd2 := cell_of_row w0 _ 2 _ _ (0, 0) hB2
    simp only [List.getElem?_toArray, List.getElem?_cons_zero, List.getElem?_cons_succ] at hd0 hd1 hd2
    obtain ⟨w2, rfl, hz2, hp⟩ := put_of hB1
    have hb2 := hp (fun W => Below w.heap.size w W) hb0
    rw [size_putBlk] at hs0
    clear hp hB1 hb0 hB0 hB2
    have hgr := fun (w0 W : World) (p : Addr) (hp : (fun k => k = w.heap.size ∨ k = w.heap.size + 2) p.block) => graft_cell (w0 := w0) (keep := (fun k => k = w.heap.size ∨ k = w.heap.size + 2)) W hp
    refine wp_region_here (fun k => k = w.heap.size ∨ k = w.heap.size + 2) [1, 5, 21, 24] (by kernel_rfl) (by kernel_rfl) ?_
    simp only [slimAll, Oper.slim, List.contains_cons, List.contains_nil, Option.map_none, Option.map_some, List.getElem?_toArray, List.getElem?_cons_zero, List.getElem?_cons_succ, Option.bind_some, beq_self_eq_true, Bool.or_false, Nat.reduceBEq, Nat.reduceAdd, Nat.zero_add]
    repeat ((with_reducible refine wpSlim_step (fun K hK => ?_)); go_simp; first | (refine hK _ _ ?_; clear hK K) | (refine ⟨by (intro kk hkk; simp (disch := (simp [size_putBlk]; omega)) only [hp_drew, hp_drewN, hp_alloc, hp_set, heap_putBlk_ne]; try (exact hk3 kk (by omega) (by omega))), hK _ _ ?_⟩; clear hK K)| (go_at_call 24; refine (r09Alpha n k d _ (by omega) (by omega) (by omega)).mono ?_; rintro e w' ⟨rfl, rfl⟩; refine ⟨_, rfl, (by intro kk hkk; simp (disch := (simp [size_putBlk]; omega)) only [hp_drew, hp_drewN, hp_alloc, hp_set, heap_putBlk_ne]), hK _ _ ?_⟩; clear hK K)| (go_at_call 25; refine (HN.out _).mono ?_; rintro e w' ⟨rfl, hbn⟩; obtain ⟨w3, rfl, hz3, hb3, hs3, hk3⟩ := after_new (o := (.cells #[.int .i64 0, .int .i64 0, .int .i64 0, .int .i64 0, .int .i64 0] 31)) hb2 hz2 (fun kk hkk => by simp (disch := (simp [size_putBlk]; omega)) only [hp_drew, hp_drewN, hp_alloc]) (by simp [size_putBlk]; omega) (by (repeat' (first | (with_reducible exact Below.refl _ _) | (with_reducible assumption) | (with_reducible refine bel_drewN ?_ _) | (with_reducible refine Below.drew ?_) | (with_reducible refine Below.alloc ?_ ?_ _) | (with_reducible refine bel_putBlk ?_ ?_ _) | (with_reducible refine Below.setCell ?_ ?_ _) | omega | (simp [size_putBlk]; done) | (simp [size_putBlk]; omega)))) hbn; clear hbn; refine ⟨_, rfl, (by intro kk hkk; simp (disch := (simp [size_putBlk]; omega)) only [hp_drew, heap_putBlk_ne]; exact hk3 kk (by first | omega | (simp at hkk; omega)) (by first | omega | (simp at hkk; omega))), hK _ _ ?_⟩; clear hK K))
    refine wpSlim_nil ?_
    clear hgr
    go_wp2
    refine bodyPost_ret (by simp [results, Try.results17, go_sem, hz3] <;> rfl) rfl ⟨rfl, by (repeat' (first | (with_reducible exact Below.refl _ _) | (with_reducible assumption) | (with_reducible refine bel_drewN ?_ _) | (with_reducible refine Below.drew ?_) | (with_reducible refine Below.alloc ?_ ?_ _) | (with_reducible refine bel_putBlk ?_ ?_ _) | (with_reducible refine Below.setCell ?_ ?_ _) | omega | (simp [size_putBlk]; done) | (simp [size_putBlk]; omega)))⟩
end Go.Proofs.Ytpfhejodjpgliaa
