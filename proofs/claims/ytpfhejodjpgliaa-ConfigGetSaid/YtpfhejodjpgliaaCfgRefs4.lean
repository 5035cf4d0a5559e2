/-
  The reference's minimum-storage codes.
-/
import Derived.Test.YtpfhejodjpgliaaCfgRefs3
namespace Go.Proofs.Ytpfhejodjpgliaa
open Go.RowKit
set_option linter.unusedSimpArgs false
set_option linter.unusedVariables false

def okS (n al : Int) : Prop := n ≤ ((255 / Nat.gcd al.toNat 255 : Nat) : Int)
def okN09 (n k d : Int) : Prop := 2 ≤ k ∧ 2 * k - 2 ≤ d ∧ d < n ∧ d - k + 1 ≤ 16 ∧ okS (n + (d - 2 * k + 2)) (d - k + 1)

theorem refSpread_int (n al : Int) (w : World) (ha : 1 ≤ al) (ha2 : al ≤ 255) (hn : 0 ≤ n) (hn2 : n ≤ 1000) :
    (okS n al → Calls Try.prog 34 #[.int .i64 n, .int .i64 al] w (RetCode 0 w)) ∧
    (¬ okS n al → Calls Try.prog 34 #[.int .i64 n, .int .i64 al] w (RetCode 2 w)) := by
  obtain ⟨N, rfl⟩ := Int.eq_ofNat_of_zero_le hn
  obtain ⟨A, rfl⟩ := Int.eq_ofNat_of_zero_le (show 0 ≤ al by omega)
  have h := refSpread N A w (by omega) (by omega) (by omega)
  unfold okS
  exact ⟨fun hh => h.1 (by rw [Int.toNat_natCast] at hh; exact Int.ofNat_le.mp hh), fun hh => h.2 (fun h3 => hh (by rw [Int.toNat_natCast]; exact Int.ofNat_le.mpr h3))⟩

theorem heap_two' (w : World) (a b : Obj) : ((w.alloc a).alloc b).heap[w.heap.size]? = some a ∧ ((w.alloc a).alloc b).heap[w.heap.size + 1]? = some b := by
  constructor
  · show ((w.heap.push a).push b)[w.heap.size]? = _
    rw [Array.getElem?_push, if_neg (by simp), Array.getElem?_push, if_pos rfl]
  · show ((w.heap.push a).push b)[w.heap.size + 1]? = _
    rw [Array.getElem?_push, if_pos (by simp)]

set_option maxHeartbeats 1000000 in
theorem r09New_ok (n k d : Int) (w : World) (hn : 1 ≤ n ∧ n ≤ 255) (hk : 0 ≤ k ∧ k ≤ 255) (hd : 0 ≤ d ∧ d ≤ 255) (h : okN09 n k d) :
    Calls Try.prog 25 #[.agg #[.int .i64 n, .int .i64 k, .int .i64 d]] w fun e w' => e = .returned (.int .i64 0) ∧ Below w.heap.size w w' := by
  have g1 : decide (255 < n) = false := decide_eq_false (by omega)
  have g2 : decide (255 < d) = false := decide_eq_false (by omega)
  have ew : IntKind.i64.wrap (n + (d - 2 * k + 2)) = n + (d - 2 * k + 2) := IntWalk.i64_in _ (by omega)
  obtain ⟨h1, h2, h3, h4, h5⟩ := h
  have f1 : decide (k < 2) = false := decide_eq_false (by omega)
  have f2 : decide (d < 2 * k - 2) = false := decide_eq_false (by omega)
  have f3 : decide (n ≤ d) = false := decide_eq_false (by omega)
  have f4 : decide (16 < d - k + 1) = false := decide_eq_false (by omega)
  have HS : ∀ w, Calls Try.prog 34 #[.int .i64 (n + (d - 2 * k + 2)), .int .i64 (d - k + 1)] w (RetCode 0 w) := fun w => (refSpread_int (n + (d - 2 * k + 2)) (d - k + 1) w (by omega) (by omega) (by omega) (by omega)).1 h5
  clear h5
  have HS := Lib.hid HS
  go_enter Try.func25, Try.ntmps25
  go_wp2_with (first | (go_at_call 24; refine (r09Alpha n k d _ (by omega) (by omega) (by omega)).mono ?_; rintro e w' ⟨rfl, rfl⟩))
  generalize hw0 : ((w.alloc (.cells #[.int .i64 n, .int .i64 k, .int .i64 d] 54)).alloc (.cells #[.int .i64 n, .int .i64 k, .int .i64 d] 54)) = w0
  have hs0 : w0.heap.size = w.heap.size + 2 := by rw [← hw0]; simp
  have hB0 : w0.heap[w.heap.size]? = some (.cells #[.int .i64 n, .int .i64 k, .int .i64 d] 54) := by rw [← hw0]; exact (heap_two' w _ _).1
  have hb0 : Below w.heap.size w w0 := by rw [← hw0]; exact (((Below.refl _ w).alloc (Nat.le_refl _) _).alloc (by simp) _)
  have hc0 : w0.cell? ⟨w.heap.size, 0, none⟩ = some (.int .i64 n) := cell_of_row w0 _ 0 _ _ (0, 0) hB0
  have hc1 : w0.cell? ⟨w.heap.size, 1, none⟩ = some (.int .i64 k) := cell_of_row w0 _ 1 _ _ (0, 0) hB0
  have hc2 : w0.cell? ⟨w.heap.size, 2, none⟩ = some (.int .i64 d) := cell_of_row w0 _ 2 _ _ (0, 0) hB0
  clear hw0
  have hgr := fun (w0 W : World) (p : Addr) (hp : (fun k => k < w.heap.size + 1) p.block) => graft_cell (w0 := w0) (keep := (fun k => k < w.heap.size + 1)) W hp
  refine wp_region_here (fun k => k < w.heap.size + 1) [3, 6, 7] (by kernel_rfl) (by kernel_rfl) ?_
  simp only [slimAll, Oper.slim, List.contains_cons, List.contains_nil, Option.map_none, Option.map_some, List.getElem?_toArray, List.getElem?_cons_zero, List.getElem?_cons_succ, Option.bind_some, beq_self_eq_true, Bool.or_false, Nat.reduceBEq, Nat.reduceAdd, Nat.zero_add]
  repeat ((with_reducible refine wpSlim_step (fun K hK => ?_)); go_simp; first | (refine hK _ _ ?_; clear hK K) | (refine ⟨by (intro kk hkk; first | (simp (disch := (simp; omega)) only [hp_drew, hp_drewN, hp_alloc, hp_set]; done) | (simp [hp_drew, hp_drewN, hp_alloc_if, hkk]; done)), hK _ _ ?_⟩; clear hK K)| (go_at_call 35; refine (r09Dumb n k d _ (by omega) (by omega) (by omega)).mono ?_; rintro e w' ⟨rfl, rfl⟩; refine ⟨_, rfl, (by intro kk hkk; simp (disch := (simp; omega)) only [hp_drew, hp_drewN, hp_alloc, hp_set]; done), hK _ _ ?_⟩; clear hK K) | (go_at_call 24; refine (r09Alpha n k d _ (by omega) (by omega) (by omega)).mono ?_; rintro e w' ⟨rfl, rfl⟩; refine ⟨_, rfl, (by intro kk hkk; simp (disch := (simp; omega)) only [hp_drew, hp_drewN, hp_alloc, hp_set]; done), hK _ _ ?_⟩; clear hK K)| (go_at_call 34; refine (HS.out _).mono ?_; rintro e w' ⟨v, rfl, hb⟩; refine ⟨_, rfl, (by intro kk hkk; refine (hb.block kk (by simp; omega)).trans ?_; simp (disch := (simp; omega)) only [hp_drew, hp_drewN, hp_alloc, hp_set]; done), hK _ _ ?_⟩; clear hK K))
  refine wpSlim_nil ?_
  clear hgr
  go_wp2
  go_ret
  refine ⟨rfl, Below.trans ?_ (hb.mono (by simp; omega))⟩
  (repeat' (first | (with_reducible exact Below.refl _ _) | (with_reducible assumption) | (with_reducible refine bel_drewN ?_ _) | (with_reducible refine Below.drew ?_) | (with_reducible refine Below.alloc ?_ ?_ _) | (with_reducible refine Below.setCell ?_ ?_ _) | omega | (simp; done) | (simp; omega)))
set_option maxHeartbeats 1000000 in
theorem r09New_bad (n k d : Int) (w : World) (hn : 1 ≤ n ∧ n ≤ 255) (hk : 0 ≤ k ∧ k ≤ 255) (hd : 0 ≤ d ∧ d ≤ 255) (h : ¬ okN09 n k d) :
    Calls Try.prog 25 #[.agg #[.int .i64 n, .int .i64 k, .int .i64 d]] w fun e w' => e = .returned (.int .i64 2) ∧ Below w.heap.size w w' := by
  have g1 : decide (255 < n) = false := decide_eq_false (by omega)
  have g2 : decide (255 < d) = false := decide_eq_false (by omega)
  have ew : IntKind.i64.wrap (n + (d - 2 * k + 2)) = n + (d - 2 * k + 2) := IntWalk.i64_in _ (by omega)
  by_cases c1 : k < 2
  · have f1 : decide (k < 2) = true := decide_eq_true c1
    clear h
    go_enter Try.func25, Try.ntmps25
    go_wp2_with (first | (go_at_call 24; refine (r09Alpha n k d _ (by omega) (by omega) (by omega)).mono ?_; rintro e w' ⟨rfl, rfl⟩))
    go_ret
    refine ⟨rfl, by (repeat' (first | (with_reducible exact Below.refl _ _) | (with_reducible assumption) | (with_reducible refine bel_drewN ?_ _) | (with_reducible refine Below.drew ?_) | (with_reducible refine Below.alloc ?_ ?_ _) | (with_reducible refine Below.setCell ?_ ?_ _) | omega | (simp; done) | (simp; omega)))⟩
  have f1 : decide (k < 2) = false := decide_eq_false c1
  by_cases c2 : d < 2 * k - 2
  · have f2 : decide (d < 2 * k - 2) = true := decide_eq_true c2
    clear h
    go_enter Try.func25, Try.ntmps25
    go_wp2_with (first | (go_at_call 24; refine (r09Alpha n k d _ (by omega) (by omega) (by omega)).mono ?_; rintro e w' ⟨rfl, rfl⟩))
    go_ret
    refine ⟨rfl, by (repeat' (first | (with_reducible exact Below.refl _ _) | (with_reducible assumption) | (with_reducible refine bel_drewN ?_ _) | (with_reducible refine Below.drew ?_) | (with_reducible refine Below.alloc ?_ ?_ _) | (with_reducible refine Below.setCell ?_ ?_ _) | omega | (simp; done) | (simp; omega)))⟩
  have f2 : decide (d < 2 * k - 2) = false := decide_eq_false c2
  by_cases c3 : n ≤ d
  · have f3 : decide (n ≤ d) = true := decide_eq_true c3
    clear h
    go_enter Try.func25, Try.ntmps25
    go_wp2_with (first | (go_at_call 24; refine (r09Alpha n k d _ (by omega) (by omega) (by omega)).mono ?_; rintro e w' ⟨rfl, rfl⟩))
    go_ret
    refine ⟨rfl, by (repeat' (first | (with_reducible exact Below.refl _ _) | (with_reducible assumption) | (with_reducible refine bel_drewN ?_ _) | (with_reducible refine Below.drew ?_) | (with_reducible refine Below.alloc ?_ ?_ _) | (with_reducible refine Below.setCell ?_ ?_ _) | omega | (simp; done) | (simp; omega)))⟩
  have f3 : decide (n ≤ d) = false := decide_eq_false c3
  by_cases c4 : 16 < d - k + 1
  · have f4 : decide (16 < d - k + 1) = true := decide_eq_true c4
    clear h
    go_enter Try.func25, Try.ntmps25
    go_wp2_with (first | (go_at_call 24; refine (r09Alpha n k d _ (by omega) (by omega) (by omega)).mono ?_; rintro e w' ⟨rfl, rfl⟩))
    go_ret
    refine ⟨rfl, by (repeat' (first | (with_reducible exact Below.refl _ _) | (with_reducible assumption) | (with_reducible refine bel_drewN ?_ _) | (with_reducible refine Below.drew ?_) | (with_reducible refine Below.alloc ?_ ?_ _) | (with_reducible refine Below.setCell ?_ ?_ _) | omega | (simp; done) | (simp; omega)))⟩
  have f4 : decide (16 < d - k + 1) = false := decide_eq_false c4
  have h5 : ¬ okS (n + (d - 2 * k + 2)) (d - k + 1) := fun h5 => h ⟨by omega, by omega, by omega, by omega, h5⟩
  have HS : ∀ w, Calls Try.prog 34 #[.int .i64 (n + (d - 2 * k + 2)), .int .i64 (d - k + 1)] w (RetCode 2 w) := fun w => (refSpread_int (n + (d - 2 * k + 2)) (d - k + 1) w (by omega) (by omega) (by omega) (by omega)).2 h5
  clear h5 h
  have HS := Lib.hid HS
  go_enter Try.func25, Try.ntmps25
  go_wp2_with (first | (go_at_call 24; refine (r09Alpha n k d _ (by omega) (by omega) (by omega)).mono ?_; rintro e w' ⟨rfl, rfl⟩))
  generalize hw0 : ((w.alloc (.cells #[.int .i64 n, .int .i64 k, .int .i64 d] 54)).alloc (.cells #[.int .i64 n, .int .i64 k, .int .i64 d] 54)) = w0
  have hs0 : w0.heap.size = w.heap.size + 2 := by rw [← hw0]; simp
  have hB0 : w0.heap[w.heap.size]? = some (.cells #[.int .i64 n, .int .i64 k, .int .i64 d] 54) := by rw [← hw0]; exact (heap_two' w _ _).1
  have hb0 : Below w.heap.size w w0 := by rw [← hw0]; exact (((Below.refl _ w).alloc (Nat.le_refl _) _).alloc (by simp) _)
  have hc0 : w0.cell? ⟨w.heap.size, 0, none⟩ = some (.int .i64 n) := cell_of_row w0 _ 0 _ _ (0, 0) hB0
  have hc1 : w0.cell? ⟨w.heap.size, 1, none⟩ = some (.int .i64 k) := cell_of_row w0 _ 1 _ _ (0, 0) hB0
  have hc2 : w0.cell? ⟨w.heap.size, 2, none⟩ = some (.int .i64 d) := cell_of_row w0 _ 2 _ _ (0, 0) hB0
  clear hw0
  have hgr := fun (w0 W : World) (p : Addr) (hp : (fun k => k < w.heap.size + 1) p.block) => graft_cell (w0 := w0) (keep := (fun k => k < w.heap.size + 1)) W hp
  refine wp_region_here (fun k => k < w.heap.size + 1) [3, 6, 7] (by kernel_rfl) (by kernel_rfl) ?_
  simp only [slimAll, Oper.slim, List.contains_cons, List.contains_nil, Option.map_none, Option.map_some, List.getElem?_toArray, List.getElem?_cons_zero, List.getElem?_cons_succ, Option.bind_some, beq_self_eq_true, Bool.or_false, Nat.reduceBEq, Nat.reduceAdd, Nat.zero_add]
  repeat ((with_reducible refine wpSlim_step (fun K hK => ?_)); go_simp; first | (refine hK _ _ ?_; clear hK K) | (refine ⟨by (intro kk hkk; first | (simp (disch := (simp; omega)) only [hp_drew, hp_drewN, hp_alloc, hp_set]; done) | (simp [hp_drew, hp_drewN, hp_alloc_if, hkk]; done)), hK _ _ ?_⟩; clear hK K)| (go_at_call 35; refine (r09Dumb n k d _ (by omega) (by omega) (by omega)).mono ?_; rintro e w' ⟨rfl, rfl⟩; refine ⟨_, rfl, (by intro kk hkk; simp (disch := (simp; omega)) only [hp_drew, hp_drewN, hp_alloc, hp_set]; done), hK _ _ ?_⟩; clear hK K) | (go_at_call 24; refine (r09Alpha n k d _ (by omega) (by omega) (by omega)).mono ?_; rintro e w' ⟨rfl, rfl⟩; refine ⟨_, rfl, (by intro kk hkk; simp (disch := (simp; omega)) only [hp_drew, hp_drewN, hp_alloc, hp_set]; done), hK _ _ ?_⟩; clear hK K)| (go_at_call 34; refine (HS.out _).mono ?_; rintro e w' ⟨v, rfl, hb⟩; refine ⟨_, rfl, (by intro kk hkk; refine (hb.block kk (by simp; omega)).trans ?_; simp (disch := (simp; omega)) only [hp_drew, hp_drewN, hp_alloc, hp_set]; done), hK _ _ ?_⟩; clear hK K))
  refine wpSlim_nil ?_
  clear hgr
  go_wp2
  go_ret
  refine ⟨rfl, Below.trans ?_ (hb.mono (by simp; omega))⟩
  (repeat' (first | (with_reducible exact Below.refl _ _) | (with_reducible assumption) | (with_reducible refine bel_drewN ?_ _) | (with_reducible refine Below.drew ?_) | (with_reducible refine Below.alloc ?_ ?_ _) | (with_reducible refine Below.setCell ?_ ?_ _) | omega | (simp; done) | (simp; omega)))
end Go.Proofs.Ytpfhejodjpgliaa
