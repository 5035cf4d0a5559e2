/-
  The reference's Check: of any code.
-/
import Derived.Test.YtpfhejodjpgliaaCfgKind5
import Derived.Test.YtpfhejodjpgliaaCfgKind3
import Derived.Test.YtpfhejodjpgliaaCfgPlain2
namespace Go.Proofs.Ytpfhejodjpgliaa
open Go.RowKit
set_option linter.unusedSimpArgs false
set_option linter.unusedVariables false

set_option maxRecDepth 100000 in
set_option maxHeartbeats 1000000 in
/-- What is no kind. -/
theorem kind_other (c n k d r t q : Int) (w : World) (h1 : (c == 1) = false) (h2 : (c == 2) = false) (h3 : (c == 3) = false) (h4 : (c == 4) = false) (h5 : (c == 5) = false) :
    Calls Try.prog 17 #[.agg #[.int .u8 c, .int .i64 n, .int .i64 k, .int .i64 d, .int .i64 r, .int .i64 t, .int .i64 q]] w fun e w' => e = .returned (.tuple #[Sh.zero.v, .bool false]) ∧ Below w.heap.size w w' := by
  go_enter Try.func17, Try.ntmps17
  go_wp2_with fail
  refine bodyPost_ret (by simp [results, Try.results17, go_sem] <;> rfl) rfl ⟨rfl, by (repeat' (first | (with_reducible exact Below.refl _ _) | (with_reducible assumption) | (with_reducible refine bel_drewN ?_ _) | (with_reducible refine Below.drew ?_) | (with_reducible refine Below.alloc ?_ ?_ _) | (with_reducible refine bel_putBlk ?_ ?_ _) | (with_reducible refine Below.setCell ?_ ?_ _) | omega | (simp [size_putBlk]; done) | (simp [size_putBlk]; omega)))⟩

instance (n k r : Int) : Decidable (okN12 n k r) := by unfold okN12; exact inferInstance
/-- What the reference's kind says: the shape, and whether it may be. -/
def kindS (c n k d r t : Int) : Sh :=
  if c = 1 then ⟨1, k, k, k + 2 * t, 1⟩
  else if c = 2 then ⟨d - k + 1, k * (d - k + 1), k, d + 2 * t, 1⟩
  else if c = 3 then ⟨d, k * d - k * (k - 1) / 2, k, d + 2 * t, 1⟩
  else if c = 4 then ⟨n - 1, k * (n - 1) - k * (k - 1) / 2, k, n - 1, 1⟩
  else if c = 5 ∧ d = 0 ∧ 1 ≤ r ∧ okN12 n k r then ⟨1, k, k + k / r - 1, if 0 < t then k + k / r - 1 + 2 * t else r, 1⟩
  else .zero
def kindOk (c n k d r t : Int) : Prop :=
  (c = 1 ∧ 1 ≤ k ∧ k ≤ n ∧ d = 0 ∧ r = 0) ∨ (c = 2 ∧ r = 0 ∧ okN09 n k d) ∨ (c = 3 ∧ r = 0 ∧ okN10 n k d) ∨ (c = 4 ∧ d = 0 ∧ r = 0 ∧ t = 0 ∧ okN11 n k) ∨ (c = 5 ∧ d = 0 ∧ 1 ≤ r ∧ okN12 n k r)

open Classical in
theorem kind_any (c n k d r t q : Int) (w : World) (hn : 1 ≤ n ∧ n ≤ 255) (hk : 0 ≤ k ∧ k ≤ 255) (hd : 0 ≤ d ∧ d ≤ 255) (hr : 0 ≤ r ∧ r ≤ 255) (ht : 0 ≤ t ∧ t ≤ 127) :
    Calls Try.prog 17 #[.agg #[.int .u8 c, .int .i64 n, .int .i64 k, .int .i64 d, .int .i64 r, .int .i64 t, .int .i64 q]] w fun e w' => e = .returned (.tuple #[(kindS c n k d r t).v, .bool (decide (kindOk c n k d r t))]) ∧ Below w.heap.size w w' := by
  by_cases h1 : c = 1
  · subst h1
    have hb : decide (kindOk 1 n k d r t) = true ↔ (1 ≤ k ∧ k ≤ n ∧ d = 0 ∧ r = 0) := by simp [kindOk]
    exact kind_reed n k d r t q _ w hn hk hd hr ht hb
  by_cases h2 : c = 2
  · subst h2
    have hb : decide (kindOk 2 n k d r t) = true ↔ (r = 0 ∧ okN09 n k d) := by simp [kindOk]
    exact kind_msr n k d r t q _ w hn hk hd hr ht hb
  by_cases h3 : c = 3
  · subst h3
    have hb : decide (kindOk 3 n k d r t) = true ↔ (r = 0 ∧ okN10 n k d) := by simp [kindOk]
    exact kind_mbr n k d r t q _ w hn hk hd hr ht hb
  by_cases h4 : c = 4
  · subst h4
    have hb : decide (kindOk 4 n k d r t) = true ↔ (d = 0 ∧ r = 0 ∧ t = 0 ∧ okN11 n k) := by simp [kindOk]
    exact kind_tr n k d r t q _ w hn hk hd hr ht hb
  by_cases h5 : c = 5
  · subst h5
    by_cases h : d = 0 ∧ 1 ≤ r ∧ okN12 n k r
    · have e1 : decide (kindOk 5 n k d r t) = true := by simp [kindOk]; exact h
      have e2 : kindS 5 n k d r t = ⟨1, k, k + k / r - 1, if 0 < t then k + k / r - 1 + 2 * t else r, 1⟩ := by
        unfold kindS
        rw [if_neg (by decide), if_neg (by decide), if_neg (by decide), if_neg (by decide), if_pos ⟨rfl, h⟩]
      rw [e1, e2]
      exact kind_loc_good n k d r t q w hn hk hd hr ht h.2.1 h.2.2 h.1
    · have e1 : decide (kindOk 5 n k d r t) = false := by simp [kindOk]; exact fun a b c => h ⟨a, b, c⟩
      have e2 : kindS 5 n k d r t = Sh.zero := by
        unfold kindS
        rw [if_neg (by decide), if_neg (by decide), if_neg (by decide), if_neg (by decide), if_neg (fun h' => h h'.2)]
      rw [e1, e2]
      exact kind_loc_bad n k d r t q w hn hk hd hr ht h
  have e1 : decide (kindOk c n k d r t) = false := by simp [kindOk, h1, h2, h3, h4, h5]
  have e2 : kindS c n k d r t = Sh.zero := by simp [kindS, h1, h2, h3, h4, h5]
  rw [e1, e2]
  exact kind_other c n k d r t q w (by simpa using h1) (by simpa using h2) (by simpa using h3) (by simpa using h4) (by simpa using h5)

def inR (n k d r t q : Int) : Prop := 1 ≤ n ∧ n ≤ 255 ∧ 0 ≤ t ∧ t ≤ 127 ∧ 0 ≤ q ∧ q ≤ n ∧ 0 ≤ k ∧ k ≤ 255 ∧ 0 ≤ d ∧ d ≤ 255 ∧ 0 ≤ r ∧ r ≤ 255
set_option maxHeartbeats 4000000 in
theorem rcheck_bad (c n k d r t q : Int) (w : World) (h : ¬ inR n k d r t q) :
    Calls Try.prog 9 #[.agg #[.int .u8 c, .int .i64 n, .int .i64 k, .int .i64 d, .int .i64 r, .int .i64 t, .int .i64 q]] w fun e w' => e = .returned (.tuple #[Sh.zero.v, .int .i64 130]) ∧ Below w.heap.size w w' := by
  unfold inR at h
  by_cases c1 : n < 1
  · have d0 : decide (n < 1) = true := decide_eq_true c1
    clear h
    go_enter Try.func9, Try.ntmps9
    go_wp2_with fail
    refine bodyPost_ret (by simp [results, Try.results9, go_sem]; rfl) rfl ⟨rfl, by (repeat' (first | (with_reducible exact Below.refl _ _) | (with_reducible assumption) | (with_reducible refine bel_drewN ?_ _) | (with_reducible refine Below.drew ?_) | (with_reducible refine Below.alloc ?_ ?_ _) | (with_reducible refine bel_putBlk ?_ ?_ _) | (with_reducible refine Below.setCell ?_ ?_ _) | omega | (simp [size_putBlk]; done) | (simp [size_putBlk]; omega)))⟩
  have dc1 : decide (n < 1) = false := decide_eq_false c1
  by_cases c2 : 255 < n
  · have d0 : decide (255 < n) = true := decide_eq_true c2
    clear h
    go_enter Try.func9, Try.ntmps9
    go_wp2_with fail
    refine bodyPost_ret (by simp [results, Try.results9, go_sem]; rfl) rfl ⟨rfl, by (repeat' (first | (with_reducible exact Below.refl _ _) | (with_reducible assumption) | (with_reducible refine bel_drewN ?_ _) | (with_reducible refine Below.drew ?_) | (with_reducible refine Below.alloc ?_ ?_ _) | (with_reducible refine bel_putBlk ?_ ?_ _) | (with_reducible refine Below.setCell ?_ ?_ _) | omega | (simp [size_putBlk]; done) | (simp [size_putBlk]; omega)))⟩
  have dc2 : decide (255 < n) = false := decide_eq_false c2
  by_cases c3 : t < 0
  · have d0 : decide (t < 0) = true := decide_eq_true c3
    clear h
    go_enter Try.func9, Try.ntmps9
    go_wp2_with fail
    refine bodyPost_ret (by simp [results, Try.results9, go_sem]; rfl) rfl ⟨rfl, by (repeat' (first | (with_reducible exact Below.refl _ _) | (with_reducible assumption) | (with_reducible refine bel_drewN ?_ _) | (with_reducible refine Below.drew ?_) | (with_reducible refine Below.alloc ?_ ?_ _) | (with_reducible refine bel_putBlk ?_ ?_ _) | (with_reducible refine Below.setCell ?_ ?_ _) | omega | (simp [size_putBlk]; done) | (simp [size_putBlk]; omega)))⟩
  have dc3 : decide (t < 0) = false := decide_eq_false c3
  by_cases c4 : 127 < t
  · have d0 : decide (127 < t) = true := decide_eq_true c4
    clear h
    go_enter Try.func9, Try.ntmps9
    go_wp2_with fail
    refine bodyPost_ret (by simp [results, Try.results9, go_sem]; rfl) rfl ⟨rfl, by (repeat' (first | (with_reducible exact Below.refl _ _) | (with_reducible assumption) | (with_reducible refine bel_drewN ?_ _) | (with_reducible refine Below.drew ?_) | (with_reducible refine Below.alloc ?_ ?_ _) | (with_reducible refine bel_putBlk ?_ ?_ _) | (with_reducible refine Below.setCell ?_ ?_ _) | omega | (simp [size_putBlk]; done) | (simp [size_putBlk]; omega)))⟩
  have dc4 : decide (127 < t) = false := decide_eq_false c4
  by_cases c5 : q < 0
  · have d0 : decide (q < 0) = true := decide_eq_true c5
    clear h
    go_enter Try.func9, Try.ntmps9
    go_wp2_with fail
    refine bodyPost_ret (by simp [results, Try.results9, go_sem]; rfl) rfl ⟨rfl, by (repeat' (first | (with_reducible exact Below.refl _ _) | (with_reducible assumption) | (with_reducible refine bel_drewN ?_ _) | (with_reducible refine Below.drew ?_) | (with_reducible refine Below.alloc ?_ ?_ _) | (with_reducible refine bel_putBlk ?_ ?_ _) | (with_reducible refine Below.setCell ?_ ?_ _) | omega | (simp [size_putBlk]; done) | (simp [size_putBlk]; omega)))⟩
  have dc5 : decide (q < 0) = false := decide_eq_false c5
  by_cases c6 : n < q
  · have d0 : decide (n < q) = true := decide_eq_true c6
    clear h
    go_enter Try.func9, Try.ntmps9
    go_wp2_with fail
    refine bodyPost_ret (by simp [results, Try.results9, go_sem]; rfl) rfl ⟨rfl, by (repeat' (first | (with_reducible exact Below.refl _ _) | (with_reducible assumption) | (with_reducible refine bel_drewN ?_ _) | (with_reducible refine Below.drew ?_) | (with_reducible refine Below.alloc ?_ ?_ _) | (with_reducible refine bel_putBlk ?_ ?_ _) | (with_reducible refine Below.setCell ?_ ?_ _) | omega | (simp [size_putBlk]; done) | (simp [size_putBlk]; omega)))⟩
  have dc6 : decide (n < q) = false := decide_eq_false c6
  by_cases c7 : k < 0
  · have d0 : decide (k < 0) = true := decide_eq_true c7
    clear h
    go_enter Try.func9, Try.ntmps9
    go_wp2_with fail
    refine bodyPost_ret (by simp [results, Try.results9, go_sem]; rfl) rfl ⟨rfl, by (repeat' (first | (with_reducible exact Below.refl _ _) | (with_reducible assumption) | (with_reducible refine bel_drewN ?_ _) | (with_reducible refine Below.drew ?_) | (with_reducible refine Below.alloc ?_ ?_ _) | (with_reducible refine bel_putBlk ?_ ?_ _) | (with_reducible refine Below.setCell ?_ ?_ _) | omega | (simp [size_putBlk]; done) | (simp [size_putBlk]; omega)))⟩
  have dc7 : decide (k < 0) = false := decide_eq_false c7
  by_cases c8 : 255 < k
  · have d0 : decide (255 < k) = true := decide_eq_true c8
    clear h
    go_enter Try.func9, Try.ntmps9
    go_wp2_with fail
    refine bodyPost_ret (by simp [results, Try.results9, go_sem]; rfl) rfl ⟨rfl, by (repeat' (first | (with_reducible exact Below.refl _ _) | (with_reducible assumption) | (with_reducible refine bel_drewN ?_ _) | (with_reducible refine Below.drew ?_) | (with_reducible refine Below.alloc ?_ ?_ _) | (with_reducible refine bel_putBlk ?_ ?_ _) | (with_reducible refine Below.setCell ?_ ?_ _) | omega | (simp [size_putBlk]; done) | (simp [size_putBlk]; omega)))⟩
  have dc8 : decide (255 < k) = false := decide_eq_false c8
  by_cases c9 : d < 0
  · have d0 : decide (d < 0) = true := decide_eq_true c9
    clear h
    go_enter Try.func9, Try.ntmps9
    go_wp2_with fail
    refine bodyPost_ret (by simp [results, Try.results9, go_sem]; rfl) rfl ⟨rfl, by (repeat' (first | (with_reducible exact Below.refl _ _) | (with_reducible assumption) | (with_reducible refine bel_drewN ?_ _) | (with_reducible refine Below.drew ?_) | (with_reducible refine Below.alloc ?_ ?_ _) | (with_reducible refine bel_putBlk ?_ ?_ _) | (with_reducible refine Below.setCell ?_ ?_ _) | omega | (simp [size_putBlk]; done) | (simp [size_putBlk]; omega)))⟩
  have dc9 : decide (d < 0) = false := decide_eq_false c9
  by_cases c10 : 255 < d
  · have d0 : decide (255 < d) = true := decide_eq_true c10
    clear h
    go_enter Try.func9, Try.ntmps9
    go_wp2_with fail
    refine bodyPost_ret (by simp [results, Try.results9, go_sem]; rfl) rfl ⟨rfl, by (repeat' (first | (with_reducible exact Below.refl _ _) | (with_reducible assumption) | (with_reducible refine bel_drewN ?_ _) | (with_reducible refine Below.drew ?_) | (with_reducible refine Below.alloc ?_ ?_ _) | (with_reducible refine bel_putBlk ?_ ?_ _) | (with_reducible refine Below.setCell ?_ ?_ _) | omega | (simp [size_putBlk]; done) | (simp [size_putBlk]; omega)))⟩
  have dc10 : decide (255 < d) = false := decide_eq_false c10
  by_cases c11 : r < 0
  · have d0 : decide (r < 0) = true := decide_eq_true c11
    clear h
    go_enter Try.func9, Try.ntmps9
    go_wp2_with fail
    refine bodyPost_ret (by simp [results, Try.results9, go_sem]; rfl) rfl ⟨rfl, by (repeat' (first | (with_reducible exact Below.refl _ _) | (with_reducible assumption) | (with_reducible refine bel_drewN ?_ _) | (with_reducible refine Below.drew ?_) | (with_reducible refine Below.alloc ?_ ?_ _) | (with_reducible refine bel_putBlk ?_ ?_ _) | (with_reducible refine Below.setCell ?_ ?_ _) | omega | (simp [size_putBlk]; done) | (simp [size_putBlk]; omega)))⟩
  have dc11 : decide (r < 0) = false := decide_eq_false c11
  by_cases c12 : 255 < r
  · have d0 : decide (255 < r) = true := decide_eq_true c12
    clear h
    go_enter Try.func9, Try.ntmps9
    go_wp2_with fail
    refine bodyPost_ret (by simp [results, Try.results9, go_sem]; rfl) rfl ⟨rfl, by (repeat' (first | (with_reducible exact Below.refl _ _) | (with_reducible assumption) | (with_reducible refine bel_drewN ?_ _) | (with_reducible refine Below.drew ?_) | (with_reducible refine Below.alloc ?_ ?_ _) | (with_reducible refine bel_putBlk ?_ ?_ _) | (with_reducible refine Below.setCell ?_ ?_ _) | omega | (simp [size_putBlk]; done) | (simp [size_putBlk]; omega)))⟩
  have dc12 : decide (255 < r) = false := decide_eq_false c12
  omega

set_option maxHeartbeats 4000000 in
theorem rc_nokind (c n k d r t q : Int) (s : Sh) (b : Bool) (w : World) (h : inR n k d r t q) (hs : ∀ w, Calls Try.prog 17 #[.agg #[.int .u8 c, .int .i64 n, .int .i64 k, .int .i64 d, .int .i64 r, .int .i64 t, .int .i64 q]] w fun e w' => e = .returned (.tuple #[s.v, .bool b]) ∧ Below w.heap.size w w') (hb : b = false) :
    Calls Try.prog 9 #[.agg #[.int .u8 c, .int .i64 n, .int .i64 k, .int .i64 d, .int .i64 r, .int .i64 t, .int .i64 q]] w fun e w' => e = .returned (.tuple #[(Sh.zero : Sh).v, .int .i64 130]) ∧ Below w.heap.size w w' := by
  obtain ⟨a1, a2, a3, a4, a5, a6, a7, a8, a9, a10, a11, a12⟩ := h
  have HK := Lib.hid hs
  clear hs
  have dc1 : decide (n < 1) = false := decide_eq_false (by omega)
  have dc2 : decide (255 < n) = false := decide_eq_false (by omega)
  have dc3 : decide (t < 0) = false := decide_eq_false (by omega)
  have dc4 : decide (127 < t) = false := decide_eq_false (by omega)
  have dc5 : decide (q < 0) = false := decide_eq_false (by omega)
  have dc6 : decide (n < q) = false := decide_eq_false (by omega)
  have dc7 : decide (k < 0) = false := decide_eq_false (by omega)
  have dc8 : decide (255 < k) = false := decide_eq_false (by omega)
  have dc9 : decide (d < 0) = false := decide_eq_false (by omega)
  have dc10 : decide (255 < d) = false := decide_eq_false (by omega)
  have dc11 : decide (r < 0) = false := decide_eq_false (by omega)
  have dc12 : decide (255 < r) = false := decide_eq_false (by omega)
  subst hb
  go_enter Try.func9, Try.ntmps9
  go_wp2_with fail
  generalize hw0 : ((w.alloc (.cells #[.int .u8 c, .int .i64 n, .int .i64 k, .int .i64 d, .int .i64 r, .int .i64 t, .int .i64 q] 23)).alloc (.cells #[.int .i64 0, .int .i64 0, .int .i64 0, .int .i64 0, .int .i64 0] 31)) = w0
  have hs0 : w0.heap.size = w.heap.size + 2 := by rw [← hw0]; simp
  have hB0 : w0.heap[w.heap.size]? = some (.cells #[.int .u8 c, .int .i64 n, .int .i64 k, .int .i64 d, .int .i64 r, .int .i64 t, .int .i64 q] 23) := by rw [← hw0]; exact (heap_two' w _ _).1
  have hB1 : w0.heap[w.heap.size + 1]? = some (.cells #[.int .i64 0, .int .i64 0, .int .i64 0, .int .i64 0, .int .i64 0] 31) := by rw [← hw0]; exact (heap_two' w _ _).2
  have hb0 : Below w.heap.size w w0 := by rw [← hw0]; exact (((Below.refl _ w).alloc (Nat.le_refl _) _).alloc (by simp) _)
  clear hw0
  refine (HK.out _).mono ?_
  rintro e w1 ⟨rfl, hn1⟩
  have hs1 := hn1.size
  have hB0 := (hn1.block _ (by omega)).trans hB0
  have hB1 := (hn1.block _ (by omega)).trans hB1
  have hb1 := hb0.trans (hn1.mono (by omega))
  clear hn1 hb0 hs0 hs1
  obtain ⟨w2, rfl, hz2, hp⟩ := put_of hB1
  have hb2 := hp (fun W => Below w.heap.size w W) hb1
  have hB0 := hp (fun W => W.heap[w.heap.size]? = _) hB0
  clear hp hB1 hb1
  have hc1 : w2.cell? ⟨w.heap.size, 1, none⟩ = some (.int .i64 n) := cell_of_row w2 _ 1 _ _ (0, 0) hB0
  have hc5 : w2.cell? ⟨w.heap.size, 5, none⟩ = some (.int .i64 t) := cell_of_row w2 _ 5 _ _ (0, 0) hB0
  have hc6 : w2.cell? ⟨w.heap.size, 6, none⟩ = some (.int .i64 q) := cell_of_row w2 _ 6 _ _ (0, 0) hB0
  have hl0 : w.heap.size < w2.heap.size := by omega
  clear hB0
  simp only [Sh.v]
  go_wp2_with fail
  refine bodyPost_ret (by simp [results, Try.results9, go_sem, hz2]; rfl) rfl ⟨rfl, ?_⟩
  (repeat' (first | (with_reducible exact Below.refl _ _) | (with_reducible assumption) | (with_reducible refine bel_drewN ?_ _) | (with_reducible refine Below.drew ?_) | (with_reducible refine Below.alloc ?_ ?_ _) | (with_reducible refine bel_putBlk ?_ ?_ _) | (with_reducible refine Below.setCell ?_ ?_ _) | omega | (simp [size_putBlk]; done) | (simp [size_putBlk]; omega)))
set_option maxHeartbeats 4000000 in
theorem rc_w (c n k d r t q : Int) (s : Sh) (b : Bool) (w : World) (h : inR n k d r t q) (hs : ∀ w, Calls Try.prog 17 #[.agg #[.int .u8 c, .int .i64 n, .int .i64 k, .int .i64 d, .int .i64 r, .int .i64 t, .int .i64 q]] w fun e w' => e = .returned (.tuple #[s.v, .bool b]) ∧ Below w.heap.size w w') (hte : -600 ≤ s.te ∧ s.te ≤ 600) (has : -2000 ≤ s.as_ ∧ s.as_ ≤ 2000) (hb : b = true) (h1 : q < s.te + 2 * t) :
    Calls Try.prog 9 #[.agg #[.int .u8 c, .int .i64 n, .int .i64 k, .int .i64 d, .int .i64 r, .int .i64 t, .int .i64 q]] w fun e w' => e = .returned (.tuple #[(Sh.zero : Sh).v, .int .i64 130]) ∧ Below w.heap.size w w' := by
  obtain ⟨a1, a2, a3, a4, a5, a6, a7, a8, a9, a10, a11, a12⟩ := h
  have HK := Lib.hid hs
  clear hs
  have dc1 : decide (n < 1) = false := decide_eq_false (by omega)
  have dc2 : decide (255 < n) = false := decide_eq_false (by omega)
  have dc3 : decide (t < 0) = false := decide_eq_false (by omega)
  have dc4 : decide (127 < t) = false := decide_eq_false (by omega)
  have dc5 : decide (q < 0) = false := decide_eq_false (by omega)
  have dc6 : decide (n < q) = false := decide_eq_false (by omega)
  have dc7 : decide (k < 0) = false := decide_eq_false (by omega)
  have dc8 : decide (255 < k) = false := decide_eq_false (by omega)
  have dc9 : decide (d < 0) = false := decide_eq_false (by omega)
  have dc10 : decide (255 < d) = false := decide_eq_false (by omega)
  have dc11 : decide (r < 0) = false := decide_eq_false (by omega)
  have dc12 : decide (255 < r) = false := decide_eq_false (by omega)
  subst hb
  have f1 : decide (q < s.te + 2 * t) = true := decide_eq_true h1
  go_enter Try.func9, Try.ntmps9
  go_wp2_with fail
  generalize hw0 : ((w.alloc (.cells #[.int .u8 c, .int .i64 n, .int .i64 k, .int .i64 d, .int .i64 r, .int .i64 t, .int .i64 q] 23)).alloc (.cells #[.int .i64 0, .int .i64 0, .int .i64 0, .int .i64 0, .int .i64 0] 31)) = w0
  have hs0 : w0.heap.size = w.heap.size + 2 := by rw [← hw0]; simp
  have hB0 : w0.heap[w.heap.size]? = some (.cells #[.int .u8 c, .int .i64 n, .int .i64 k, .int .i64 d, .int .i64 r, .int .i64 t, .int .i64 q] 23) := by rw [← hw0]; exact (heap_two' w _ _).1
  have hB1 : w0.heap[w.heap.size + 1]? = some (.cells #[.int .i64 0, .int .i64 0, .int .i64 0, .int .i64 0, .int .i64 0] 31) := by rw [← hw0]; exact (heap_two' w _ _).2
  have hb0 : Below w.heap.size w w0 := by rw [← hw0]; exact (((Below.refl _ w).alloc (Nat.le_refl _) _).alloc (by simp) _)
  clear hw0
  refine (HK.out _).mono ?_
  rintro e w1 ⟨rfl, hn1⟩
  have hs1 := hn1.size
  have hB0 := (hn1.block _ (by omega)).trans hB0
  have hB1 := (hn1.block _ (by omega)).trans hB1
  have hb1 := hb0.trans (hn1.mono (by omega))
  clear hn1 hb0 hs0 hs1
  obtain ⟨w2, rfl, hz2, hp⟩ := put_of hB1
  have hb2 := hp (fun W => Below w.heap.size w W) hb1
  have hB0 := hp (fun W => W.heap[w.heap.size]? = _) hB0
  clear hp hB1 hb1
  have hc1 : w2.cell? ⟨w.heap.size, 1, none⟩ = some (.int .i64 n) := cell_of_row w2 _ 1 _ _ (0, 0) hB0
  have hc5 : w2.cell? ⟨w.heap.size, 5, none⟩ = some (.int .i64 t) := cell_of_row w2 _ 5 _ _ (0, 0) hB0
  have hc6 : w2.cell? ⟨w.heap.size, 6, none⟩ = some (.int .i64 q) := cell_of_row w2 _ 6 _ _ (0, 0) hB0
  have hl0 : w.heap.size < w2.heap.size := by omega
  clear hB0
  simp only [Sh.v]
  go_wp2_with fail
  refine bodyPost_ret (by simp [results, Try.results9, go_sem, hz2]; rfl) rfl ⟨rfl, ?_⟩
  (repeat' (first | (with_reducible exact Below.refl _ _) | (with_reducible assumption) | (with_reducible refine bel_drewN ?_ _) | (with_reducible refine Below.drew ?_) | (with_reducible refine Below.alloc ?_ ?_ _) | (with_reducible refine bel_putBlk ?_ ?_ _) | (with_reducible refine Below.setCell ?_ ?_ _) | omega | (simp [size_putBlk]; done) | (simp [size_putBlk]; omega)))
set_option maxHeartbeats 4000000 in
theorem rc_as (c n k d r t q : Int) (s : Sh) (b : Bool) (w : World) (h : inR n k d r t q) (hs : ∀ w, Calls Try.prog 17 #[.agg #[.int .u8 c, .int .i64 n, .int .i64 k, .int .i64 d, .int .i64 r, .int .i64 t, .int .i64 q]] w fun e w' => e = .returned (.tuple #[s.v, .bool b]) ∧ Below w.heap.size w w') (hte : -600 ≤ s.te ∧ s.te ≤ 600) (has : -2000 ≤ s.as_ ∧ s.as_ ≤ 2000) (hb : b = true) (h1 : s.te + 2 * t ≤ q) (h2 : n ≤ s.as_) :
    Calls Try.prog 9 #[.agg #[.int .u8 c, .int .i64 n, .int .i64 k, .int .i64 d, .int .i64 r, .int .i64 t, .int .i64 q]] w fun e w' => e = .returned (.tuple #[(Sh.zero : Sh).v, .int .i64 130]) ∧ Below w.heap.size w w' := by
  obtain ⟨a1, a2, a3, a4, a5, a6, a7, a8, a9, a10, a11, a12⟩ := h
  have HK := Lib.hid hs
  clear hs
  have dc1 : decide (n < 1) = false := decide_eq_false (by omega)
  have dc2 : decide (255 < n) = false := decide_eq_false (by omega)
  have dc3 : decide (t < 0) = false := decide_eq_false (by omega)
  have dc4 : decide (127 < t) = false := decide_eq_false (by omega)
  have dc5 : decide (q < 0) = false := decide_eq_false (by omega)
  have dc6 : decide (n < q) = false := decide_eq_false (by omega)
  have dc7 : decide (k < 0) = false := decide_eq_false (by omega)
  have dc8 : decide (255 < k) = false := decide_eq_false (by omega)
  have dc9 : decide (d < 0) = false := decide_eq_false (by omega)
  have dc10 : decide (255 < d) = false := decide_eq_false (by omega)
  have dc11 : decide (r < 0) = false := decide_eq_false (by omega)
  have dc12 : decide (255 < r) = false := decide_eq_false (by omega)
  subst hb
  have f1 : decide (q < s.te + 2 * t) = false := decide_eq_false (by omega)
  have f2 : decide (n ≤ s.as_) = true := decide_eq_true h2
  go_enter Try.func9, Try.ntmps9
  go_wp2_with fail
  generalize hw0 : ((w.alloc (.cells #[.int .u8 c, .int .i64 n, .int .i64 k, .int .i64 d, .int .i64 r, .int .i64 t, .int .i64 q] 23)).alloc (.cells #[.int .i64 0, .int .i64 0, .int .i64 0, .int .i64 0, .int .i64 0] 31)) = w0
  have hs0 : w0.heap.size = w.heap.size + 2 := by rw [← hw0]; simp
  have hB0 : w0.heap[w.heap.size]? = some (.cells #[.int .u8 c, .int .i64 n, .int .i64 k, .int .i64 d, .int .i64 r, .int .i64 t, .int .i64 q] 23) := by rw [← hw0]; exact (heap_two' w _ _).1
  have hB1 : w0.heap[w.heap.size + 1]? = some (.cells #[.int .i64 0, .int .i64 0, .int .i64 0, .int .i64 0, .int .i64 0] 31) := by rw [← hw0]; exact (heap_two' w _ _).2
  have hb0 : Below w.heap.size w w0 := by rw [← hw0]; exact (((Below.refl _ w).alloc (Nat.le_refl _) _).alloc (by simp) _)
  clear hw0
  refine (HK.out _).mono ?_
  rintro e w1 ⟨rfl, hn1⟩
  have hs1 := hn1.size
  have hB0 := (hn1.block _ (by omega)).trans hB0
  have hB1 := (hn1.block _ (by omega)).trans hB1
  have hb1 := hb0.trans (hn1.mono (by omega))
  clear hn1 hb0 hs0 hs1
  obtain ⟨w2, rfl, hz2, hp⟩ := put_of hB1
  have hb2 := hp (fun W => Below w.heap.size w W) hb1
  have hB0 := hp (fun W => W.heap[w.heap.size]? = _) hB0
  clear hp hB1 hb1
  have hc1 : w2.cell? ⟨w.heap.size, 1, none⟩ = some (.int .i64 n) := cell_of_row w2 _ 1 _ _ (0, 0) hB0
  have hc5 : w2.cell? ⟨w.heap.size, 5, none⟩ = some (.int .i64 t) := cell_of_row w2 _ 5 _ _ (0, 0) hB0
  have hc6 : w2.cell? ⟨w.heap.size, 6, none⟩ = some (.int .i64 q) := cell_of_row w2 _ 6 _ _ (0, 0) hB0
  have hl0 : w.heap.size < w2.heap.size := by omega
  clear hB0
  simp only [Sh.v]
  go_wp2_with fail
  refine bodyPost_ret (by simp [results, Try.results9, go_sem, hz2]; rfl) rfl ⟨rfl, ?_⟩
  (repeat' (first | (with_reducible exact Below.refl _ _) | (with_reducible assumption) | (with_reducible refine bel_drewN ?_ _) | (with_reducible refine Below.drew ?_) | (with_reducible refine Below.alloc ?_ ?_ _) | (with_reducible refine bel_putBlk ?_ ?_ _) | (with_reducible refine Below.setCell ?_ ?_ _) | omega | (simp [size_putBlk]; done) | (simp [size_putBlk]; omega)))
set_option maxHeartbeats 4000000 in
theorem rc_te (c n k d r t q : Int) (s : Sh) (b : Bool) (w : World) (h : inR n k d r t q) (hs : ∀ w, Calls Try.prog 17 #[.agg #[.int .u8 c, .int .i64 n, .int .i64 k, .int .i64 d, .int .i64 r, .int .i64 t, .int .i64 q]] w fun e w' => e = .returned (.tuple #[s.v, .bool b]) ∧ Below w.heap.size w w') (hte : -600 ≤ s.te ∧ s.te ≤ 600) (has : -2000 ≤ s.as_ ∧ s.as_ ≤ 2000) (hb : b = true) (h1 : s.te + 2 * t ≤ q) (h2 : s.as_ < n) (h3 : n ≤ s.te + 2 * t) :
    Calls Try.prog 9 #[.agg #[.int .u8 c, .int .i64 n, .int .i64 k, .int .i64 d, .int .i64 r, .int .i64 t, .int .i64 q]] w fun e w' => e = .returned (.tuple #[(Sh.zero : Sh).v, .int .i64 130]) ∧ Below w.heap.size w w' := by
  obtain ⟨a1, a2, a3, a4, a5, a6, a7, a8, a9, a10, a11, a12⟩ := h
  have HK := Lib.hid hs
  clear hs
  have dc1 : decide (n < 1) = false := decide_eq_false (by omega)
  have dc2 : decide (255 < n) = false := decide_eq_false (by omega)
  have dc3 : decide (t < 0) = false := decide_eq_false (by omega)
  have dc4 : decide (127 < t) = false := decide_eq_false (by omega)
  have dc5 : decide (q < 0) = false := decide_eq_false (by omega)
  have dc6 : decide (n < q) = false := decide_eq_false (by omega)
  have dc7 : decide (k < 0) = false := decide_eq_false (by omega)
  have dc8 : decide (255 < k) = false := decide_eq_false (by omega)
  have dc9 : decide (d < 0) = false := decide_eq_false (by omega)
  have dc10 : decide (255 < d) = false := decide_eq_false (by omega)
  have dc11 : decide (r < 0) = false := decide_eq_false (by omega)
  have dc12 : decide (255 < r) = false := decide_eq_false (by omega)
  subst hb
  have f1 : decide (q < s.te + 2 * t) = false := decide_eq_false (by omega)
  have f2 : decide (n ≤ s.as_) = false := decide_eq_false (by omega)
  have f3 : decide (n ≤ s.te + 2 * t) = true := decide_eq_true h3
  go_enter Try.func9, Try.ntmps9
  go_wp2_with fail
  generalize hw0 : ((w.alloc (.cells #[.int .u8 c, .int .i64 n, .int .i64 k, .int .i64 d, .int .i64 r, .int .i64 t, .int .i64 q] 23)).alloc (.cells #[.int .i64 0, .int .i64 0, .int .i64 0, .int .i64 0, .int .i64 0] 31)) = w0
  have hs0 : w0.heap.size = w.heap.size + 2 := by rw [← hw0]; simp
  have hB0 : w0.heap[w.heap.size]? = some (.cells #[.int .u8 c, .int .i64 n, .int .i64 k, .int .i64 d, .int .i64 r, .int .i64 t, .int .i64 q] 23) := by rw [← hw0]; exact (heap_two' w _ _).1
  have hB1 : w0.heap[w.heap.size + 1]? = some (.cells #[.int .i64 0, .int .i64 0, .int .i64 0, .int .i64 0, .int .i64 0] 31) := by rw [← hw0]; exact (heap_two' w _ _).2
  have hb0 : Below w.heap.size w w0 := by rw [← hw0]; exact (((Below.refl _ w).alloc (Nat.le_refl _) _).alloc (by simp) _)
  clear hw0
  refine (HK.out _).mono ?_
  rintro e w1 ⟨rfl, hn1⟩
  have hs1 := hn1.size
  have hB0 := (hn1.block _ (by omega)).trans hB0
  have hB1 := (hn1.block _ (by omega)).trans hB1
  have hb1 := hb0.trans (hn1.mono (by omega))
  clear hn1 hb0 hs0 hs1
  obtain ⟨w2, rfl, hz2, hp⟩ := put_of hB1
  have hb2 := hp (fun W => Below w.heap.size w W) hb1
  have hB0 := hp (fun W => W.heap[w.heap.size]? = _) hB0
  clear hp hB1 hb1
  have hc1 : w2.cell? ⟨w.heap.size, 1, none⟩ = some (.int .i64 n) := cell_of_row w2 _ 1 _ _ (0, 0) hB0
  have hc5 : w2.cell? ⟨w.heap.size, 5, none⟩ = some (.int .i64 t) := cell_of_row w2 _ 5 _ _ (0, 0) hB0
  have hc6 : w2.cell? ⟨w.heap.size, 6, none⟩ = some (.int .i64 q) := cell_of_row w2 _ 6 _ _ (0, 0) hB0
  have hl0 : w.heap.size < w2.heap.size := by omega
  clear hB0
  simp only [Sh.v]
  go_wp2_with fail
  refine bodyPost_ret (by simp [results, Try.results9, go_sem, hz2]; rfl) rfl ⟨rfl, ?_⟩
  (repeat' (first | (with_reducible exact Below.refl _ _) | (with_reducible assumption) | (with_reducible refine bel_drewN ?_ _) | (with_reducible refine Below.drew ?_) | (with_reducible refine Below.alloc ?_ ?_ _) | (with_reducible refine bel_putBlk ?_ ?_ _) | (with_reducible refine Below.setCell ?_ ?_ _) | omega | (simp [size_putBlk]; done) | (simp [size_putBlk]; omega)))
set_option maxHeartbeats 4000000 in
theorem rc_good (c n k d r t q : Int) (s : Sh) (b : Bool) (w : World) (h : inR n k d r t q) (hs : ∀ w, Calls Try.prog 17 #[.agg #[.int .u8 c, .int .i64 n, .int .i64 k, .int .i64 d, .int .i64 r, .int .i64 t, .int .i64 q]] w fun e w' => e = .returned (.tuple #[s.v, .bool b]) ∧ Below w.heap.size w w') (hte : -600 ≤ s.te ∧ s.te ≤ 600) (has : -2000 ≤ s.as_ ∧ s.as_ ≤ 2000) (hb : b = true) (h1 : s.te + 2 * t ≤ q) (h2 : s.as_ < n) (h3 : s.te + 2 * t < n) :
    Calls Try.prog 9 #[.agg #[.int .u8 c, .int .i64 n, .int .i64 k, .int .i64 d, .int .i64 r, .int .i64 t, .int .i64 q]] w fun e w' => e = .returned (.tuple #[(s : Sh).v, .int .i64 0]) ∧ Below w.heap.size w w' := by
  obtain ⟨a1, a2, a3, a4, a5, a6, a7, a8, a9, a10, a11, a12⟩ := h
  have HK := Lib.hid hs
  clear hs
  have dc1 : decide (n < 1) = false := decide_eq_false (by omega)
  have dc2 : decide (255 < n) = false := decide_eq_false (by omega)
  have dc3 : decide (t < 0) = false := decide_eq_false (by omega)
  have dc4 : decide (127 < t) = false := decide_eq_false (by omega)
  have dc5 : decide (q < 0) = false := decide_eq_false (by omega)
  have dc6 : decide (n < q) = false := decide_eq_false (by omega)
  have dc7 : decide (k < 0) = false := decide_eq_false (by omega)
  have dc8 : decide (255 < k) = false := decide_eq_false (by omega)
  have dc9 : decide (d < 0) = false := decide_eq_false (by omega)
  have dc10 : decide (255 < d) = false := decide_eq_false (by omega)
  have dc11 : decide (r < 0) = false := decide_eq_false (by omega)
  have dc12 : decide (255 < r) = false := decide_eq_false (by omega)
  subst hb
  have f1 : decide (q < s.te + 2 * t) = false := decide_eq_false (by omega)
  have f2 : decide (n ≤ s.as_) = false := decide_eq_false (by omega)
  have f3 : decide (n ≤ s.te + 2 * t) = false := decide_eq_false (by omega)
  go_enter Try.func9, Try.ntmps9
  go_wp2_with fail
  generalize hw0 : ((w.alloc (.cells #[.int .u8 c, .int .i64 n, .int .i64 k, .int .i64 d, .int .i64 r, .int .i64 t, .int .i64 q] 23)).alloc (.cells #[.int .i64 0, .int .i64 0, .int .i64 0, .int .i64 0, .int .i64 0] 31)) = w0
  have hs0 : w0.heap.size = w.heap.size + 2 := by rw [← hw0]; simp
  have hB0 : w0.heap[w.heap.size]? = some (.cells #[.int .u8 c, .int .i64 n, .int .i64 k, .int .i64 d, .int .i64 r, .int .i64 t, .int .i64 q] 23) := by rw [← hw0]; exact (heap_two' w _ _).1
  have hB1 : w0.heap[w.heap.size + 1]? = some (.cells #[.int .i64 0, .int .i64 0, .int .i64 0, .int .i64 0, .int .i64 0] 31) := by rw [← hw0]; exact (heap_two' w _ _).2
  have hb0 : Below w.heap.size w w0 := by rw [← hw0]; exact (((Below.refl _ w).alloc (Nat.le_refl _) _).alloc (by simp) _)
  clear hw0
  refine (HK.out _).mono ?_
  rintro e w1 ⟨rfl, hn1⟩
  have hs1 := hn1.size
  have hB0 := (hn1.block _ (by omega)).trans hB0
  have hB1 := (hn1.block _ (by omega)).trans hB1
  have hb1 := hb0.trans (hn1.mono (by omega))
  clear hn1 hb0 hs0 hs1
  obtain ⟨w2, rfl, hz2, hp⟩ := put_of hB1
  have hb2 := hp (fun W => Below w.heap.size w W) hb1
  have hB0 := hp (fun W => W.heap[w.heap.size]? = _) hB0
  clear hp hB1 hb1
  have hc1 : w2.cell? ⟨w.heap.size, 1, none⟩ = some (.int .i64 n) := cell_of_row w2 _ 1 _ _ (0, 0) hB0
  have hc5 : w2.cell? ⟨w.heap.size, 5, none⟩ = some (.int .i64 t) := cell_of_row w2 _ 5 _ _ (0, 0) hB0
  have hc6 : w2.cell? ⟨w.heap.size, 6, none⟩ = some (.int .i64 q) := cell_of_row w2 _ 6 _ _ (0, 0) hB0
  have hl0 : w.heap.size < w2.heap.size := by omega
  clear hB0
  simp only [Sh.v]
  go_wp2_with fail
  refine bodyPost_ret (by simp [results, Try.results9, go_sem, hz2]; rfl) rfl ⟨rfl, ?_⟩
  (repeat' (first | (with_reducible exact Below.refl _ _) | (with_reducible assumption) | (with_reducible refine bel_drewN ?_ _) | (with_reducible refine Below.drew ?_) | (with_reducible refine Below.alloc ?_ ?_ _) | (with_reducible refine bel_putBlk ?_ ?_ _) | (with_reducible refine Below.setCell ?_ ?_ _) | omega | (simp [size_putBlk]; done) | (simp [size_putBlk]; omega)))
end Go.Proofs.Ytpfhejodjpgliaa
