/-
  The reference's kind: local codes, and what is no kind.
-/
import Derived.Test.YtpfhejodjpgliaaCfgKind4
import Derived.Test.YtpfhejodjpgliaaCfgRefs5
import Derived.Test.YtpfhejodjpgliaaRegion2
import Derived.Test.YtpfhejodjpgliaaPut2
import Derived.Outline
namespace Go.Proofs.Ytpfhejodjpgliaa
open Go.RowKit
set_option linter.unusedSimpArgs false
set_option linter.unusedVariables false

theorem no_bool {b : Bool} : b = b := rfl
set_option maxRecDepth 100000 in
set_option maxHeartbeats 2000000 in
theorem kind_loc_bad (n k d r t q : Int) (w : World) (hn : 1 ≤ n ∧ n ≤ 255) (hk : 0 ≤ k ∧ k ≤ 255) (hd : 0 ≤ d ∧ d ≤ 255) (hr : 0 ≤ r ∧ r ≤ 255) (ht : 0 ≤ t ∧ t ≤ 127) (h : ¬ (d = 0 ∧ 1 ≤ r ∧ okN12 n k r)) :
    Calls Try.prog 17 #[.agg #[.int .u8 5, .int .i64 n, .int .i64 k, .int .i64 d, .int .i64 r, .int .i64 t, .int .i64 q]] w fun e w' => e = .returned (.tuple #[.agg #[.int .i64 0, .int .i64 0, .int .i64 0, .int .i64 0, .int .i64 0], .bool false]) ∧ Below w.heap.size w w' := by
  by_cases c1 : d = 0
  case neg =>
    have f1 : (d == 0) = false := by simpa using c1
    have f1' : (d != 0) = true := by simpa using c1
    clear h
    go_enter Try.func17, Try.ntmps17
    go_wp2_with fail
    refine bodyPost_ret (by simp [results, Try.results17, go_sem] <;> rfl) rfl ⟨rfl, by (repeat' (first | (with_reducible exact Below.refl _ _) | (with_reducible assumption) | (with_reducible refine bel_drewN ?_ _) | (with_reducible refine Below.drew ?_) | (with_reducible refine Below.alloc ?_ ?_ _) | (with_reducible refine bel_putBlk ?_ ?_ _) | (with_reducible refine Below.setCell ?_ ?_ _) | omega | (simp [size_putBlk]; done) | (simp [size_putBlk]; omega)))⟩
  have f1 : (d == 0) = true := by simpa using c1
  have f1' : (d != 0) = false := by simpa using c1
  by_cases c2 : 1 ≤ r
  case neg =>
    have f2 : decide (r < 1) = true := decide_eq_true (by omega)
    clear h c1
    go_enter Try.func17, Try.ntmps17
    go_wp2_with fail
    refine bodyPost_ret (by simp [results, Try.results17, go_sem] <;> rfl) rfl ⟨rfl, by (repeat' (first | (with_reducible exact Below.refl _ _) | (with_reducible assumption) | (with_reducible refine bel_drewN ?_ _) | (with_reducible refine Below.drew ?_) | (with_reducible refine Below.alloc ?_ ?_ _) | (with_reducible refine bel_putBlk ?_ ?_ _) | (with_reducible refine Below.setCell ?_ ?_ _) | omega | (simp [size_putBlk]; done) | (simp [size_putBlk]; omega)))⟩
  have f2 : decide (r < 1) = false := decide_eq_false (by omega)
  have HN : ∀ w, Calls Try.prog 32 _ w _ := fun w => r12New_bad n k r w hn hk ⟨c2, hr.2⟩ (fun c3 => h ⟨c1, c2, c3⟩)
  have HN := Lib.hid HN
  clear h c1 c2
  go_enter Try.func17, Try.ntmps17
  go_wp2_with fail
  generalize hw0 : (((w.alloc (.cells #[.int .u8 5, .int .i64 n, .int .i64 k, .int .i64 d, .int .i64 r, .int .i64 t, .int .i64 q] 23)).alloc (.cells #[.int .i64 0, .int .i64 0, .int .i64 0, .int .i64 0, .int .i64 0] 31)).alloc (.cells #[.int .i64 n, .int .i64 k, .int .i64 r] 63)) = w0
  have hs0 : w0.heap.size = w.heap.size + 3 := by rw [← hw0]; simp
  have hB0 : w0.heap[w.heap.size]? = some (.cells #[.int .u8 5, .int .i64 n, .int .i64 k, .int .i64 d, .int .i64 r, .int .i64 t, .int .i64 q] 23) := by rw [← hw0]; exact (heap_three w _ _ _).1
  have hB1 : w0.heap[w.heap.size + 1]? = some (.cells #[.int .i64 0, .int .i64 0, .int .i64 0, .int .i64 0, .int .i64 0] 31) := by rw [← hw0]; exact (heap_three w _ _ _).2.1
  have hB2 : w0.heap[w.heap.size + 2]? = some (.cells #[.int .i64 n, .int .i64 k, .int .i64 r] 63) := by rw [← hw0]; exact (heap_three w _ _ _).2.2
  have hb0 : Below w.heap.size w w0 := by rw [← hw0]; exact ((((Below.refl _ w).alloc (Nat.le_refl _) _).alloc (by simp) _).alloc (by simp; omega) _)
  clear hw0
  refine (HN.out _).mono ?_
  rintro e w1 ⟨rfl, hn1⟩
  have hs1 := hn1.size
  have hB0' := (hn1.block _ (by omega)).trans hB0
  have hB1' := (hn1.block _ (by omega)).trans hB1
  have hB2' := (hn1.block _ (by omega)).trans hB2
  have hb1 := hb0.trans (hn1.mono (by omega))
  clear hn1 hB0 hB1 hB2 hb0
  rw [hs0] at hs1
  clear hs0
  obtain ⟨w2, rfl, hz2, hp⟩ := put_of hB1'
  have hb2 := hp (fun W => Below w.heap.size w W) hb1
  rw [size_putBlk] at hs1
  clear hp hB1' hb1 hB2' hB0'
  go_wp2
  refine bodyPost_ret (by simp [results, Try.results17, go_sem, hz2] <;> rfl) rfl ⟨rfl, by (repeat' (first | (with_reducible exact Below.refl _ _) | (with_reducible assumption) | (with_reducible refine bel_drewN ?_ _) | (with_reducible refine Below.drew ?_) | (with_reducible refine Below.alloc ?_ ?_ _) | (with_reducible refine bel_putBlk ?_ ?_ _) | (with_reducible refine Below.setCell ?_ ?_ _) | omega | (simp [size_putBlk]; done) | (simp [size_putBlk]; omega)))⟩

set_option maxRecDepth 100000 in
set_option maxHeartbeats 2000000 in
theorem kind_loc_good (n k d r t q : Int) (w : World) (hn : 1 ≤ n ∧ n ≤ 255) (hk : 0 ≤ k ∧ k ≤ 255) (hd : 0 ≤ d ∧ d ≤ 255) (hr : 0 ≤ r ∧ r ≤ 255) (ht : 0 ≤ t ∧ t ≤ 127) (h1 : 1 ≤ r) (h2 : okN12 n k r) (h3 : d = 0) :
    Calls Try.prog 17 #[.agg #[.int .u8 5, .int .i64 n, .int .i64 k, .int .i64 d, .int .i64 r, .int .i64 t, .int .i64 q]] w fun e w' => e = .returned (.tuple #[.agg #[.int .i64 1, .int .i64 k, .int .i64 (k + k / r - 1), .int .i64 (if 0 < t then k + k / r - 1 + 2 * t else r), .int .i64 1], .bool true]) ∧ Below w.heap.size w w' := by
  have f1 : (d == 0) = true := by simpa using h3
  have f1' : (d != 0) = false := by simpa using h3
  have f2 : decide (r < 1) = false := decide_eq_false (by omega)
  have q1 : 0 ≤ k / r ∧ k / r ≤ k := ⟨Int.ediv_nonneg (by omega) (by omega), Int.ediv_le_self _ (by omega)⟩
  have e1 : IntKind.i64.wrap (2 * t) = 2 * t := IntWalk.i64_in _ (by omega)
  have e2 : IntKind.i64.wrap (k + k / r - 1 + 2 * t) = k + k / r - 1 + 2 * t := IntWalk.i64_in _ (by omega)
  have HN : ∀ w, Calls Try.prog 32 _ w _ := fun w => r12New_ok n k r w hn hk ⟨h1, hr.2⟩ h2
  have HN := Lib.hid HN
  clear h3 h2
  have T1 := Lib.hid (⟨f1, f1', f2, e1, e2⟩ : (d == 0) = true ∧ (d != 0) = false ∧ decide (r < 1) = false ∧ IntKind.i64.wrap (2 * t) = 2 * t ∧ IntKind.i64.wrap (k + k / r - 1 + 2 * t) = k + k / r - 1 + 2 * t)
  clear T1
  go_enter Try.func17, Try.ntmps17
  go_wp2_with fail
  generalize hw0 : (((w.alloc (.cells #[.int .u8 5, .int .i64 n, .int .i64 k, .int .i64 d, .int .i64 r, .int .i64 t, .int .i64 q] 23)).alloc (.cells #[.int .i64 0, .int .i64 0, .int .i64 0, .int .i64 0, .int .i64 0] 31)).alloc (.cells #[.int .i64 n, .int .i64 k, .int .i64 r] 63)) = w0
  have hs0 : w0.heap.size = w.heap.size + 3 := by rw [← hw0]; simp
  have hB0 : w0.heap[w.heap.size]? = some (.cells #[.int .u8 5, .int .i64 n, .int .i64 k, .int .i64 d, .int .i64 r, .int .i64 t, .int .i64 q] 23) := by rw [← hw0]; exact (heap_three w _ _ _).1
  have hB1 : w0.heap[w.heap.size + 1]? = some (.cells #[.int .i64 0, .int .i64 0, .int .i64 0, .int .i64 0, .int .i64 0] 31) := by rw [← hw0]; exact (heap_three w _ _ _).2.1
  have hB2 : w0.heap[w.heap.size + 2]? = some (.cells #[.int .i64 n, .int .i64 k, .int .i64 r] 63) := by rw [← hw0]; exact (heap_three w _ _ _).2.2
  have hb0 : Below w.heap.size w w0 := by rw [← hw0]; exact ((((Below.refl _ w).alloc (Nat.le_refl _) _).alloc (by simp) _).alloc (by simp; omega) _)
  clear hw0
  refine (HN.out _).mono ?_
  rintro e w1 ⟨rfl, hn1⟩
  have hs1 := hn1.size
  have hB0' := (hn1.block _ (by omega)).trans hB0
  have hB1' := (hn1.block _ (by omega)).trans hB1
  have hB2' := (hn1.block _ (by omega)).trans hB2
  have hb1 := hb0.trans (hn1.mono (by omega))
  clear hn1 hB0 hB1 hB2 hb0
  rw [hs0] at hs1
  clear hs0
  obtain ⟨w2, rfl, hz2, hp⟩ := put_of hB1'
  have hB0 := hp (fun W => W.heap[w.heap.size]? = _) hB0'
  have hB2 := hp (fun W => W.heap[w.heap.size + 2]? = _) hB2'
  have hb2 := hp (fun W => Below w.heap.size w W) hb1
  rw [size_putBlk] at hs1
  clear hp hB1' hb1 hB2' hB0'
  have hc1 : w2.cell? ⟨w.heap.size, 2, none⟩ = some (.int .i64 k) := cell_of_row w2 _ 2 _ _ (0, 0) hB0
  have hc3 : w2.cell? ⟨w.heap.size, 4, none⟩ = some (.int .i64 r) := cell_of_row w2 _ 4 _ _ (0, 0) hB0
  have hc4 : w2.cell? ⟨w.heap.size, 5, none⟩ = some (.int .i64 t) := cell_of_row w2 _ 5 _ _ (0, 0) hB0
  have hd0 : w2.cell? ⟨w.heap.size + 2, 0, none⟩ = some (.int .i64 n) := cell_of_row w2 _ 0 _ _ (0, 0) hB2
  have hd1 : w2.cell? ⟨w.heap.size + 2, 1, none⟩ = some (.int .i64 k) := cell_of_row w2 _ 1 _ _ (0, 0) hB2
  have hd2 : w2.cell? ⟨w.heap.size + 2, 2, none⟩ = some (.int .i64 r) := cell_of_row w2 _ 2 _ _ (0, 0) hB2
  have hl0 : w.heap.size < w2.heap.size := by omega
  have hl2 : w.heap.size + 2 < w2.heap.size := by omega
  have hl3 : ¬ w.heap.size = w2.heap.size := by omega
  have hl4 : ¬ w.heap.size + 1 = w2.heap.size := by omega
  go_wp2_with fail
  have hgr := fun (w0 W : World) (p : Addr) (hp : (fun k => k < w2.heap.size) p.block) => graft_cell (w0 := w0) (keep := (fun k => k < w2.heap.size)) W hp
  refine wp_region_tree (fun k => k < w2.heap.size) [3, 7, 8] (.step 0 (.step 1 (.step 2 (.step 4 (.step 5 (.fork 3 (.step 6 (.step 7 (.step 8 .done))) 7 (.step 3 (.step 6 (.step 8 .done))))))))) (by kernel_rfl) (by kernel_rfl) ?_
  simp only [slimTr, slimStep, Oper.slim, List.contains_cons, List.contains_nil, Option.map_none, Option.map_some, List.getElem?_toArray, List.getElem?_cons_zero, List.getElem?_cons_succ, Option.bind_some, beq_self_eq_true, Bool.or_false, Nat.reduceBEq, Nat.reduceAdd, Nat.zero_add]
  repeat ((with_reducible refine wpSlimT_step (fun K hK => ?_)); go_simp; first | (refine hK _ _ ?_; clear hK K) | (refine ⟨by (intro kk hkk; first | (simp (disch := (simp; omega)) only [hp_drew, hp_drewN, hp_alloc, hp_set]; done) | (simp [hp_drew, hp_drewN, hp_alloc_if, hkk]; done) | (simp (disch := (simp [size_putBlk]; omega)) only [hp_drew, hp_drewN, hp_alloc, hp_set, heap_putBlk_ne]; done)), hK _ _ ?_⟩; clear hK K)| (go_at_call 33; refine (r12Tells n k r _ hk ⟨h1, hr.2⟩).mono ?_; rintro e w5 ⟨rfl, nn, rfl⟩; refine ⟨_, rfl, (by intro kk hkk; simp (disch := (simp [size_putBlk]; omega)) only [hp_drew, hp_drewN, hp_alloc, hp_set]; done), hK _ _ ?_⟩; clear hK K))
  refine wpSlimT_fork ?_ ?_
  all_goals
    repeat ((with_reducible refine wpSlimT_step (fun K hK => ?_)); go_simp; first | (refine hK _ _ ?_; clear hK K) | (refine ⟨by (intro kk hkk; first | (simp (disch := (simp; omega)) only [hp_drew, hp_drewN, hp_alloc, hp_set]; done) | (simp [hp_drew, hp_drewN, hp_alloc_if, hkk]; done) | (simp (disch := (simp [size_putBlk]; omega)) only [hp_drew, hp_drewN, hp_alloc, hp_set, heap_putBlk_ne]; done)), hK _ _ ?_⟩; clear hK K)| (go_at_call 33; refine (r12Tells n k r _ hk ⟨h1, hr.2⟩).mono ?_; rintro e w5 ⟨rfl, nn, rfl⟩; refine ⟨_, rfl, (by intro kk hkk; simp (disch := (simp [size_putBlk]; omega)) only [hp_drew, hp_drewN, hp_alloc, hp_set]; done), hK _ _ ?_⟩; clear hK K))
    refine wpSlimT_done ?_
  all_goals clear hgr
  · obtain ⟨W, hW⟩ : ∃ W, (((putBlk w2 (w.heap.size + 1) (.cells #[.int .i64 0, .int .i64 0, .int .i64 0, .int .i64 0, .int .i64 0] 31)).alloc (.cells #[.int .i64 n, .int .i64 k, .int .i64 r] 63)).drewN (1 + nn)).alloc (.cells #[.int .i64 1, .int .i64 k, .int .i64 (k + k / r - 1), .int .i64 r, .int .i64 1] 31) = W := ⟨_, rfl⟩
    have hW0 : W.heap[w.heap.size]? = some (.cells #[.int .u8 5, .int .i64 n, .int .i64 k, .int .i64 d, .int .i64 r, .int .i64 t, .int .i64 q] 23) := by
      rw [← hW]
      (simp (disch := (simp [size_putBlk]; try omega)) only [hp_drew, hp_drewN, hp_alloc, hp_set, heap_putBlk_ne])
      exact hB0
    have hW1 : W.heap[w.heap.size + 1]? = some (.cells #[.int .i64 0, .int .i64 0, .int .i64 0, .int .i64 0, .int .i64 0] 31) := by
      rw [← hW]
      (simp (disch := (simp [size_putBlk]; try omega)) only [hp_drew, hp_drewN, hp_alloc, hp_set, heap_putBlk_ne])
      exact heap_putBlk _ hz2
    have hW8 : W.heap[w2.heap.size + 1]? = some (.cells #[.int .i64 1, .int .i64 k, .int .i64 (k + k / r - 1), .int .i64 r, .int .i64 1] 31) := by
      rw [← hW]
      first | (rw [hp_alloc_if, if_pos (by simp [size_putBlk])]; done) | (have h0 : ((((putBlk w2 (w.heap.size + 1) (.cells #[.int .i64 0, .int .i64 0, .int .i64 0, .int .i64 0, .int .i64 0] 31)).alloc (.cells #[.int .i64 0, .int .i64 0, .int .i64 0, .int .i64 0, .int .i64 0] 31)).alloc (.cells #[.int .i64 n, .int .i64 k, .int .i64 r] 63)).drewN (1 + nn)).heap[w2.heap.size]? = some (.cells #[.int .i64 0, .int .i64 0, .int .i64 0, .int .i64 0, .int .i64 0] 31) := (by rw [hp_drewN, hp_alloc_if, if_neg (by rw [World.size_alloc, size_putBlk]; omega), hp_alloc_if, if_pos (by rw [size_putBlk])]); exact heap_set_same (heap_set_same (heap_set_same (heap_set_same (heap_set_same h0 0 _) 1 _) 2 _) 3 _) 4 _)
    have hWb : Below w.heap.size w W := by
      rw [← hW]
      (repeat' (first | (with_reducible exact Below.refl _ _) | (with_reducible assumption) | (with_reducible refine bel_drewN ?_ _) | (with_reducible refine Below.drew ?_) | (with_reducible refine Below.alloc ?_ ?_ _) | (with_reducible refine bel_putBlk ?_ ?_ _) | (with_reducible refine Below.setCell ?_ ?_ _) | omega | (simp [size_putBlk]; done) | (simp [size_putBlk]; omega)))
    have hWc : W.cell? ⟨w.heap.size, 5, none⟩ = some (.int .i64 t) := cell_of_row W _ 5 _ _ (0, 0) hW0
    have hWz : w.heap.size + 1 < w2.heap.size + 1 ∧ w.heap.size < w2.heap.size + 1 := by omega
    obtain ⟨hz8, hz9⟩ := hWz
    rw [hW]
    clear hW hW0 hB0 hB2 hc1 hc3 hc4 hd0 hd1 hd2 hl0 hl2 hl3 hl4 hb2 hs1 hz2
    generalize w2.heap.size + 1 = b8 at hW8 hz8 hz9 ⊢
    clear w2
    obtain ⟨W2, rfl, hz2, hp⟩ := put_of hW8
    have hW1 := hp (fun W => W.heap[w.heap.size + 1]? = _) hW1
    have hWb := hp (fun W => Below w.heap.size w W) hWb
    have hWc := hp (fun W => W.cell? ⟨w.heap.size, 5, none⟩ = _) hWc
    clear hp hW8
    obtain ⟨W3, rfl, hz3, hp⟩ := put_of hW1
    have hWb := hp (fun W => Below w.heap.size w W) hWb
    have hWc := hp (fun W => W.cell? ⟨w.heap.size, 5, none⟩ = _) hWc
    clear hp hW1
    rw [size_putBlk] at hz2
    have n1 : ¬ w.heap.size = b8 := by omega
    have n2 : ¬ w.heap.size + 1 = b8 := by omega
    have n3 : ¬ b8 = w.heap.size + 1 := by omega
    by_cases c3 : 0 < t
    · have f3 : decide (0 < t) = true := decide_eq_true c3
      go_wp2
      refine bodyPost_ret (v := .tuple #[.agg #[.int .i64 1, .int .i64 k, .int .i64 (k + k / r - 1), .int .i64 (k + k / r - 1 + 2 * t), .int .i64 1], .bool true]) (by simp [results, Try.results17, go_sem, hz2, hz3, n1, n2, n3]) rfl ⟨rfl, ?_⟩
      (repeat' (first | (with_reducible exact Below.refl _ _) | (with_reducible assumption) | (with_reducible refine bel_drewN ?_ _) | (with_reducible refine Below.drew ?_) | (with_reducible refine Below.alloc ?_ ?_ _) | (with_reducible refine bel_putBlk ?_ ?_ _) | (with_reducible refine Below.setCell ?_ ?_ _) | omega | (simp [size_putBlk]; done) | (simp [size_putBlk]; omega)))
    · have f3 : decide (0 < t) = false := decide_eq_false c3
      go_wp2
      refine bodyPost_ret (v := .tuple #[.agg #[.int .i64 1, .int .i64 k, .int .i64 (k + k / r - 1), .int .i64 (r), .int .i64 1], .bool true]) (by simp [results, Try.results17, go_sem, hz2, hz3, n1, n2, n3]) rfl ⟨rfl, ?_⟩
      (repeat' (first | (with_reducible exact Below.refl _ _) | (with_reducible assumption) | (with_reducible refine bel_drewN ?_ _) | (with_reducible refine Below.drew ?_) | (with_reducible refine Below.alloc ?_ ?_ _) | (with_reducible refine bel_putBlk ?_ ?_ _) | (with_reducible refine Below.setCell ?_ ?_ _) | omega | (simp [size_putBlk]; done) | (simp [size_putBlk]; omega)))
  · obtain ⟨W, hW⟩ : ∃ W, ((((((((putBlk w2 (w.heap.size + 1) (.cells #[.int .i64 0, .int .i64 0, .int .i64 0, .int .i64 0, .int .i64 0] 31)).alloc (.cells #[.int .i64 0, .int .i64 0, .int .i64 0, .int .i64 0, .int .i64 0] 31)).alloc (.cells #[.int .i64 n, .int .i64 k, .int .i64 r] 63)).drewN (1 + nn)).setCell ⟨w2.heap.size, 0, none⟩ (.int .i64 1)).setCell ⟨w2.heap.size, 1, none⟩ (.int .i64 k)).setCell ⟨w2.heap.size, 2, none⟩ (.int .i64 (k + k / r - 1))).setCell ⟨w2.heap.size, 3, none⟩ (.int .i64 r)).setCell ⟨w2.heap.size, 4, none⟩ (.int .i64 1) = W := ⟨_, rfl⟩
    have hW0 : W.heap[w.heap.size]? = some (.cells #[.int .u8 5, .int .i64 n, .int .i64 k, .int .i64 d, .int .i64 r, .int .i64 t, .int .i64 q] 23) := by
      rw [← hW]
      (simp (disch := (simp [size_putBlk]; try omega)) only [hp_drew, hp_drewN, hp_alloc, hp_set, heap_putBlk_ne])
      exact hB0
    have hW1 : W.heap[w.heap.size + 1]? = some (.cells #[.int .i64 0, .int .i64 0, .int .i64 0, .int .i64 0, .int .i64 0] 31) := by
      rw [← hW]
      (simp (disch := (simp [size_putBlk]; try omega)) only [hp_drew, hp_drewN, hp_alloc, hp_set, heap_putBlk_ne])
      exact heap_putBlk _ hz2
    have hW8 : W.heap[w2.heap.size]? = some (.cells #[.int .i64 1, .int .i64 k, .int .i64 (k + k / r - 1), .int .i64 r, .int .i64 1] 31) := by
      rw [← hW]
      first | (rw [hp_alloc_if, if_pos (by simp [size_putBlk])]; done) | (have h0 : ((((putBlk w2 (w.heap.size + 1) (.cells #[.int .i64 0, .int .i64 0, .int .i64 0, .int .i64 0, .int .i64 0] 31)).alloc (.cells #[.int .i64 0, .int .i64 0, .int .i64 0, .int .i64 0, .int .i64 0] 31)).alloc (.cells #[.int .i64 n, .int .i64 k, .int .i64 r] 63)).drewN (1 + nn)).heap[w2.heap.size]? = some (.cells #[.int .i64 0, .int .i64 0, .int .i64 0, .int .i64 0, .int .i64 0] 31) := (by rw [hp_drewN, hp_alloc_if, if_neg (by rw [World.size_alloc, size_putBlk]; omega), hp_alloc_if, if_pos (by rw [size_putBlk])]); exact heap_set_same (heap_set_same (heap_set_same (heap_set_same (heap_set_same h0 0 _) 1 _) 2 _) 3 _) 4 _)
    have hWb : Below w.heap.size w W := by
      rw [← hW]
      (repeat' (first | (with_reducible exact Below.refl _ _) | (with_reducible assumption) | (with_reducible refine bel_drewN ?_ _) | (with_reducible refine Below.drew ?_) | (with_reducible refine Below.alloc ?_ ?_ _) | (with_reducible refine bel_putBlk ?_ ?_ _) | (with_reducible refine Below.setCell ?_ ?_ _) | omega | (simp [size_putBlk]; done) | (simp [size_putBlk]; omega)))
    have hWc : W.cell? ⟨w.heap.size, 5, none⟩ = some (.int .i64 t) := cell_of_row W _ 5 _ _ (0, 0) hW0
    have hWz : w.heap.size + 1 < w2.heap.size ∧ w.heap.size < w2.heap.size := by omega
    obtain ⟨hz8, hz9⟩ := hWz
    rw [hW]
    clear hW hW0 hB0 hB2 hc1 hc3 hc4 hd0 hd1 hd2 hl0 hl2 hl3 hl4 hb2 hs1 hz2
    generalize w2.heap.size = b8 at hW8 hz8 hz9 ⊢
    clear w2
    obtain ⟨W2, rfl, hz2, hp⟩ := put_of hW8
    have hW1 := hp (fun W => W.heap[w.heap.size + 1]? = _) hW1
    have hWb := hp (fun W => Below w.heap.size w W) hWb
    have hWc := hp (fun W => W.cell? ⟨w.heap.size, 5, none⟩ = _) hWc
    clear hp hW8
    obtain ⟨W3, rfl, hz3, hp⟩ := put_of hW1
    have hWb := hp (fun W => Below w.heap.size w W) hWb
    have hWc := hp (fun W => W.cell? ⟨w.heap.size, 5, none⟩ = _) hWc
    clear hp hW1
    rw [size_putBlk] at hz2
    have n1 : ¬ w.heap.size = b8 := by omega
    have n2 : ¬ w.heap.size + 1 = b8 := by omega
    have n3 : ¬ b8 = w.heap.size + 1 := by omega
    by_cases c3 : 0 < t
    · have f3 : decide (0 < t) = true := decide_eq_true c3
      go_wp2
      refine bodyPost_ret (v := .tuple #[.agg #[.int .i64 1, .int .i64 k, .int .i64 (k + k / r - 1), .int .i64 (k + k / r - 1 + 2 * t), .int .i64 1], .bool true]) (by simp [results, Try.results17, go_sem, hz2, hz3, n1, n2, n3]) rfl ⟨rfl, ?_⟩
      (repeat' (first | (with_reducible exact Below.refl _ _) | (with_reducible assumption) | (with_reducible refine bel_drewN ?_ _) | (with_reducible refine Below.drew ?_) | (with_reducible refine Below.alloc ?_ ?_ _) | (with_reducible refine bel_putBlk ?_ ?_ _) | (with_reducible refine Below.setCell ?_ ?_ _) | omega | (simp [size_putBlk]; done) | (simp [size_putBlk]; omega)))
    · have f3 : decide (0 < t) = false := decide_eq_false c3
      go_wp2
      refine bodyPost_ret (v := .tuple #[.agg #[.int .i64 1, .int .i64 k, .int .i64 (k + k / r - 1), .int .i64 (r), .int .i64 1], .bool true]) (by simp [results, Try.results17, go_sem, hz2, hz3, n1, n2, n3]) rfl ⟨rfl, ?_⟩
      (repeat' (first | (with_reducible exact Below.refl _ _) | (with_reducible assumption) | (with_reducible refine bel_drewN ?_ _) | (with_reducible refine Below.drew ?_) | (with_reducible refine Below.alloc ?_ ?_ _) | (with_reducible refine bel_putBlk ?_ ?_ _) | (with_reducible refine Below.setCell ?_ ?_ _) | omega | (simp [size_putBlk]; done) | (simp [size_putBlk]; omega)))
end Go.Proofs.Ytpfhejodjpgliaa
